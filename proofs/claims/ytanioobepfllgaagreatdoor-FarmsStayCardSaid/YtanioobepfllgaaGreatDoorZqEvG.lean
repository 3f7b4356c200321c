/- Contracts of functions that this seat's laws reach, each: what one call returns and what it leaves in memory; no condition beyond each theorem's own hypotheses. -/
import Derived.Test.YtanioobepfllgaaGreatDoorZqPrnBin
import Derived.Test.YtanioobepfllgaaGreatDoorZqLateG
import Derived.Test.YtanioobepfllgaaGreatDoorZqTree
import Derived.Test.YtanioobepfllgaaGreatDoorZqTwo
set_option linter.unusedVariables false
set_option linter.unusedSimpArgs false
namespace Go.Proofs.YtanioobepfllgaaGreatDoor
open Go Go.RowKit Go.Bl

theorem Own.set_ev0 {w : World} {lo : Nat} {e : TypeId} {g c : Nat} {l : List Ev} (h : Own w lo e (some ⟨g, 0, none⟩) c l) {i : Nat} (hi : i < l.length) (s : Int) : Own (w.setCell ⟨g, i * 5, none⟩ (.int .i64 s)) lo e (some ⟨g, 0, none⟩) c (l.set i ⟨s, l[i].kind, l[i].pr, l[i].job, l[i].mat⟩) :=
  h.put hi (j := 0) (x := ⟨s, l[i].kind, l[i].pr, l[i].job, l[i].mat⟩) (u := .int .i64 s) (by decide) (by rintro c1 rfl; rfl)

theorem Own.set_ev1 {w : World} {lo : Nat} {e : TypeId} {g c : Nat} {l : List Ev} (h : Own w lo e (some ⟨g, 0, none⟩) c l) {i : Nat} (hi : i < l.length) (s : Int) : Own (w.setCell ⟨g, i * 5 + 1, none⟩ (.int .i64 s)) lo e (some ⟨g, 0, none⟩) c (l.set i ⟨l[i].at_, s, l[i].pr, l[i].job, l[i].mat⟩) :=
  h.put hi (j := 1) (x := ⟨l[i].at_, s, l[i].pr, l[i].job, l[i].mat⟩) (u := .int .i64 s) (by decide) (by rintro c1 rfl; rfl)

theorem Own.set_ev2 {w : World} {lo : Nat} {e : TypeId} {g c : Nat} {l : List Ev} (h : Own w lo e (some ⟨g, 0, none⟩) c l) {i : Nat} (hi : i < l.length) (s : ByteArray) : Own (w.setCell ⟨g, i * 5 + 2, none⟩ (.string s)) lo e (some ⟨g, 0, none⟩) c (l.set i ⟨l[i].at_, l[i].kind, s, l[i].job, l[i].mat⟩) :=
  h.put hi (j := 2) (x := ⟨l[i].at_, l[i].kind, s, l[i].job, l[i].mat⟩) (u := .string s) (by decide) (by rintro c1 rfl; rfl)

theorem Own.set_ev3 {w : World} {lo : Nat} {e : TypeId} {g c : Nat} {l : List Ev} (h : Own w lo e (some ⟨g, 0, none⟩) c l) {i : Nat} (hi : i < l.length) (s : ByteArray) : Own (w.setCell ⟨g, i * 5 + 3, none⟩ (.string s)) lo e (some ⟨g, 0, none⟩) c (l.set i ⟨l[i].at_, l[i].kind, l[i].pr, s, l[i].mat⟩) :=
  h.put hi (j := 3) (x := ⟨l[i].at_, l[i].kind, l[i].pr, s, l[i].mat⟩) (u := .string s) (by decide) (by rintro c1 rfl; rfl)

set_option maxHeartbeats 4000000 in
set_option maxRecDepth 100000 in
theorem eventList_any (b : Nat) (N : Int) (w : World) (hs : Strm w b N) (hN : N ≤ 1000000000) :
    Calls Tryz.prog 50 #[.pointer (some ⟨b, 0, none⟩)] w (SLst (α := Ev) b (N + 120) 16 w) := by
  have hbw := hs.lt
  go_enter Tryz.func50, Tryz.ntmps50
  go_wp2_with fail
  refine (range_any b N _ _ _ hs (by omega) (by omega) (by omega) (by omega)).mono ?_
  rintro e w1 ⟨r, rfl, hr, ho1⟩
  obtain ⟨r, rfl⟩ := Int.eq_ofNat_of_zero_le (show 0 ≤ r by omega)
  have ho := (SOut.refl hs).trans ho1
  have hr16 : (r : Int) ≤ 16 := by omega
  have hgs := ho1.size
  have hb1 : b < w1.heap.size := by omega
  clear ho1
  go_wp2_with fail
  go_loopw [3, 4, 9] (fun at_ o i wr => ∃ (k : Nat) (a : Int) (l : List Ev) (A' : Option Addr) (c' : Nat), k ≤ r ∧ i = .int .i64 k ∧ at_ = .int .i64 a ∧ (0 ≤ a ∧ a ≤ 10 * k) ∧ o = .slice A' l.length c' ∧ Hid (l.length = k) ∧ Own wr w1.heap.size 60 A' c' l ∧ SOut b (N + 1 + 5 * k) w wr ∧ w1.heap.size ≤ wr.heap.size) (fun _ _ i _ => r - (intOf i).toNat)
  case atStart => exact ⟨0, 0, [], none, 0, Nat.zero_le _, rfl, rfl, by omega, rfl, rfl, Own.nil _ _ _, ho.mono (by omega), Nat.le_refl _⟩
  case round =>
    clear ho
    obtain ⟨k, a, l, A', c', hk, rfl, rfl, ha, rfl, hlk, hown, ho, hsz0⟩ := hrel
    by_cases hlt : k < r
    · go_wp2_with fail
      refine (pick_any b (N + 1 + 5 * k) _ _ _ [0, 1, 5, 10] _ (ho.2.pure (gr_alloc (World.grownBy.refl _ _) _)) (by omega) (sl_intsAt _ _ _ _ _ (by first | rfl | simp) (by have := ho.2.lt; omega) (by simp [maxLen])) rfl (by simp)).mono ?_
      rintro e w2 ⟨s0, rfl, hs0, ho2⟩
      have hs0' : 0 ≤ s0 ∧ s0 ≤ 10 := by simp at hs0; omega
      have hg0 := gr_alloc (World.grownBy.refl wr none) (.cells #[.int .i64 0, .int .i64 1, .int .i64 5, .int .i64 10] 3)
      replace ho := (ho.pure hg0).trans ho2
      replace hown := (hown.pure hg0).s ho2 hb1
      have hsz := ho2.size
      simp at hsz
      clear ho2 hg0 hs0
      go_wp2_with fail
      refine (some_any b (N + 1 + 5 * k + 1) _ _ _ [⟨#[112, 49]⟩, ⟨#[112, 49]⟩, ⟨#[112, 50]⟩] _ (ho.2.pure (gr_alloc (World.grownBy.refl _ _) _)) (by omega) (sl_strsAt _ _ _ _ _ (by first | rfl | simp) (by have := ho.2.lt; omega) (by simp [maxLen])) rfl (by simp)).mono ?_
      rintro e w3 ⟨s1, rfl, ho2⟩
      have hg0 := gr_alloc (World.grownBy.refl w2 none) (.cells #[.string ⟨#[112, 49]⟩, .string ⟨#[112, 49]⟩, .string ⟨#[112, 50]⟩] 9)
      replace ho := (ho.pure hg0).trans ho2
      replace hown := (hown.pure hg0).s ho2 hb1
      have hsz3 := ho2.size
      simp at hsz3
      clear ho2 hg0
      go_wp2_with fail
      refine (pick_any b (N + 1 + 5 * k + 1 + 1) _ _ _ [1, 1, 1, 2, 2, 3, 4, 5, 6, 6] _ (ho.2.pure (gr_alloc (World.grownBy.refl _ _) _)) (by omega) (sl_intsAt _ _ _ _ _ (by first | rfl | simp) (by have := ho.2.lt; omega) (by simp [maxLen])) rfl (by simp)).mono ?_
      rintro e w4 ⟨s2, rfl, _, ho2⟩
      have hg0 := gr_alloc (World.grownBy.refl w3 none) (.cells #[.int .i64 1, .int .i64 1, .int .i64 1, .int .i64 2, .int .i64 2, .int .i64 3, .int .i64 4, .int .i64 5, .int .i64 6, .int .i64 6] 3)
      replace ho := (ho.pure hg0).trans ho2
      replace hown := (hown.pure hg0).s ho2 hb1
      have hsz4 := ho2.size
      simp at hsz4
      clear ho2 hg0
      have hll : l.length ≤ 16 := by have := hlk.out; omega
      go_upto_region 7 with fail
      obtain ⟨w5, hw5⟩ : ∃ x, x = (w4).alloc (.cells [.int .i64 (a + s0), .int .i64 s2, .string s1, .string ⟨#[]⟩, .string ⟨#[]⟩].toArray 60) := ⟨_, rfl⟩
      have hg5 : (w4).grownBy w5 none := by rw [hw5]; exact gr_alloc (World.grownBy.refl _ _) _
      have hb5 : Box w5 (w4).heap.size 60 [.int .i64 (a + s0), .int .i64 s2, .string s1, .string ⟨#[]⟩, .string ⟨#[]⟩] := by rw [hw5]; exact Box.new _ _ _
      have hxs5 := hb5.lt
      rw [← hw5]
      clear hw5
      obtain ⟨x5, hx5⟩ : ∃ x, x = (w4).heap.size := ⟨_, rfl⟩
      rw [← hx5] at hb5 hxs5 ⊢
      have hxl5 : (w4).heap.size ≤ x5 := by omega
      clear hx5
      have hnA : blk A' ≠ some x5 := fun e => by have := (hown.blk_lt e).2; omega
      replace ho := ho.pure hg5
      replace hown := hown.pure hg5
      have hbx : b < x5 := by omega
      have hbw5 : w.heap.size ≤ x5 := by have := ho.size; omega
      have hsz5 := hg5.size
      obtain ⟨k1, _⟩ := hb5.c 1 rfl
      by_cases h1 : s2 = 1
      · subst h1
        go_wp2_with fail
        refine (some_any b _ _ _ _ [⟨#[106, 49]⟩, ⟨#[106, 50]⟩, ⟨#[106, 51]⟩, ⟨#[106, 52]⟩] _ (ho.2.pure (gr_alloc (World.grownBy.refl _ _) _)) (by omega) (sl_strsAt _ _ _ _ _ (by first | rfl | simp) (by have := ho.2.lt; omega) (by simp [maxLen])) rfl (by simp)).mono ?_
        rintro e w6 ⟨s3, rfl, ho2⟩
        have hg0 := gr_alloc (World.grownBy.refl w5 none) (.cells #[.string ⟨#[106, 49]⟩, .string ⟨#[106, 50]⟩, .string ⟨#[106, 51]⟩, .string ⟨#[106, 52]⟩] 9)
        replace ho := (ho.pure hg0).trans ho2
        replace hown := (hown.pure hg0).s ho2 hb1
        have hb6 := (hb5.pure hg0).gr ho2.1 (fun e => by injection e; omega)
        have hsz6 := ho2.size
        simp at hsz6
        clear ho2 hg0 k1
        obtain ⟨k3, l3⟩ := hb6.c 3 rfl
        go_upto_region 12 with fail
        obtain ⟨w7, hw7⟩ : ∃ W : World, W = w6.setCell ⟨x5, 3, none⟩ (.string s3) := ⟨_, rfl⟩
        rw [← hw7]
        have hb7 := hb6.set_ 3 (.string s3) (by simp)
        rw [← hw7] at hb7
        replace hown : Own w7 w1.heap.size 60 A' c' l := by rw [hw7]; exact hown.set_other (i := 3) (.string s3) hnA
        replace ho := ho.set hbw (p := ⟨x5, 3, none⟩) (by simp only; omega) (.string s3)
        rw [← hw7] at ho
        have hsz7 : w6.heap.size ≤ w7.heap.size := by rw [hw7]; simp
        clear hw7 k3 l3
        obtain ⟨d0, _⟩ := hb7.c 0 rfl
        obtain ⟨d1, _⟩ := hb7.c 1 rfl
        obtain ⟨d2, _⟩ := hb7.c 2 rfl
        obtain ⟨d3, _⟩ := hb7.c 3 rfl
        obtain ⟨d4, _⟩ := hb7.c 4 rfl
        go_wp2_with (at_builtin; obtain ⟨i0, hi, hz, hi1, hi2⟩ := info_parts info_ev; refine wpList_push (α := Ev) _ rfl (.tmp 38) (.tmp 40) _ rfl w1.heap.size 60 i0 _ 64 Tryz.underlying55 hi hz hi1 hi2 rfl _ _ _ l rfl ?c1 (by exact hown.pure (gr_alloc (World.grownBy.refl _ _) _)) 0 ⟨_, 0, none⟩ 1 1 [⟨a + s0, 1, s1, s3, ⟨#[]⟩⟩] rfl rfl (by exact sl_oneAt _ 0 [.int .i64 (a + s0), .int .i64 1, .string s1, .string s3, .string ⟨#[]⟩] _ _ _ (by first | rfl | simp) (Nat.zero_le _) rfl) ?c2 ?c3 ?c4 ?_)
        case c1 => rfl
        case c2 => first | omega | (simp; omega)
        case c3 => first | (simp [maxLen]; omega) | (unfold maxLen; omega)
        case c4 => first | omega | (simp; omega)
        intro A9 c9 w9 hown9 hup9
        have hg9 := gr_alloc (World.grownBy.refl w7 none) (.cells #[.int .i64 (a + s0), .int .i64 1, .string s1, .string s3, .string ⟨#[]⟩] 60)
        have ho9 := (ho.pure hg9).upd (lo := w1.heap.size) (by omega) hb1 hup9
        have hsz9 := hup9.size
        simp at hsz9
        go_wp2
        (go_roundw; (case rel => exact ⟨k + 1, a + s0, l ++ [⟨a + s0, 1, s1, s3, ⟨#[]⟩⟩], A9, c9, by omega, by go_num, rfl, by omega, by simp, by simp [Hid, hlk.out], hown9, ho9.mono (by omega), by omega⟩); (case measure => simp [intOf]; omega))
      · have e1 : (s2 == 1) = false := by simp [h1]
        by_cases h4 : s2 = 4
        · subst h4
          clear h1 e1
          go_wp2_with fail
          refine (some_any b _ _ _ _ [⟨#[112, 108, 97]⟩, ⟨#[112, 101, 116]⟩] _ (ho.2.pure (gr_alloc (World.grownBy.refl _ _) _)) (by omega) (sl_strsAt _ _ _ _ _ (by first | rfl | simp) (by have := ho.2.lt; omega) (by simp [maxLen])) rfl (by simp)).mono ?_
          rintro e w6 ⟨s3, rfl, ho2⟩
          have hg0 := gr_alloc (World.grownBy.refl w5 none) (.cells #[.string ⟨#[112, 108, 97]⟩, .string ⟨#[112, 101, 116]⟩] 9)
          replace ho := (ho.pure hg0).trans ho2
          replace hown := (hown.pure hg0).s ho2 hb1
          have hb6 := (hb5.pure hg0).gr ho2.1 (fun e => by injection e; omega)
          have hsz6 := ho2.size
          simp at hsz6
          clear ho2 hg0 k1
          obtain ⟨k3, l3⟩ := hb6.c 4 rfl
          go_upto_region 12 with fail
          obtain ⟨w7, hw7⟩ : ∃ W : World, W = w6.setCell ⟨x5, 4, none⟩ (.string s3) := ⟨_, rfl⟩
          rw [← hw7]
          have hb7 := hb6.set_ 4 (.string s3) (by simp)
          rw [← hw7] at hb7
          replace hown : Own w7 w1.heap.size 60 A' c' l := by rw [hw7]; exact hown.set_other (i := 4) (.string s3) hnA
          replace ho := ho.set hbw (p := ⟨x5, 4, none⟩) (by simp only; omega) (.string s3)
          rw [← hw7] at ho
          have hsz7 : w6.heap.size ≤ w7.heap.size := by rw [hw7]; simp
          clear hw7 k3 l3
          obtain ⟨d0, _⟩ := hb7.c 0 rfl
          obtain ⟨d1, _⟩ := hb7.c 1 rfl
          obtain ⟨d2, _⟩ := hb7.c 2 rfl
          obtain ⟨d3, _⟩ := hb7.c 3 rfl
          obtain ⟨d4, _⟩ := hb7.c 4 rfl
          go_wp2_with (at_builtin; obtain ⟨i0, hi, hz, hi1, hi2⟩ := info_parts info_ev; refine wpList_push (α := Ev) _ rfl (.tmp 38) (.tmp 40) _ rfl w1.heap.size 60 i0 _ 64 Tryz.underlying55 hi hz hi1 hi2 rfl _ _ _ l rfl ?c1 (by exact hown.pure (gr_alloc (World.grownBy.refl _ _) _)) 0 ⟨_, 0, none⟩ 1 1 [⟨a + s0, 4, s1, ⟨#[]⟩, s3⟩] rfl rfl (by exact sl_oneAt _ 0 [.int .i64 (a + s0), .int .i64 4, .string s1, .string ⟨#[]⟩, .string s3] _ _ _ (by first | rfl | simp) (Nat.zero_le _) rfl) ?c2 ?c3 ?c4 ?_)
          case c1 => rfl
          case c2 => first | omega | (simp; omega)
          case c3 => first | (simp [maxLen]; omega) | (unfold maxLen; omega)
          case c4 => first | omega | (simp; omega)
          intro A9 c9 w9 hown9 hup9
          have hg9 := gr_alloc (World.grownBy.refl w7 none) (.cells #[.int .i64 (a + s0), .int .i64 4, .string s1, .string ⟨#[]⟩, .string s3] 60)
          have ho9 := (ho.pure hg9).upd (lo := w1.heap.size) (by omega) hb1 hup9
          have hsz9 := hup9.size
          simp at hsz9
          go_wp2
          (go_roundw; (case rel => exact ⟨k + 1, a + s0, l ++ [⟨a + s0, 4, s1, ⟨#[]⟩, s3⟩], A9, c9, by omega, by go_num, rfl, by omega, by simp, by simp [Hid, hlk.out], hown9, ho9.mono (by omega), by omega⟩); (case measure => simp [intOf]; omega))
        · have e4 : (s2 == 4) = false := by simp [h4]
          replace h1 := hide h1
          replace h4 := hide h4
          clear k1
          obtain ⟨d0, _⟩ := hb5.c 0 rfl
          obtain ⟨d1, _⟩ := hb5.c 1 rfl
          obtain ⟨d2, _⟩ := hb5.c 2 rfl
          obtain ⟨d3, _⟩ := hb5.c 3 rfl
          obtain ⟨d4, _⟩ := hb5.c 4 rfl
          go_wp2_with (at_builtin; obtain ⟨i0, hi, hz, hi1, hi2⟩ := info_parts info_ev; refine wpList_push (α := Ev) _ rfl (.tmp 38) (.tmp 40) _ rfl w1.heap.size 60 i0 _ 64 Tryz.underlying55 hi hz hi1 hi2 rfl _ _ _ l rfl ?c1 (by exact hown.pure (gr_alloc (World.grownBy.refl _ _) _)) 0 ⟨_, 0, none⟩ 1 1 [⟨a + s0, s2, s1, ⟨#[]⟩, ⟨#[]⟩⟩] rfl rfl (by exact sl_oneAt _ 0 [.int .i64 (a + s0), .int .i64 s2, .string s1, .string ⟨#[]⟩, .string ⟨#[]⟩] _ _ _ (by first | rfl | simp) (Nat.zero_le _) rfl) ?c2 ?c3 ?c4 ?_)
          case c1 => rfl
          case c2 => first | omega | (simp; omega)
          case c3 => first | (simp [maxLen]; omega) | (unfold maxLen; omega)
          case c4 => first | omega | (simp; omega)
          intro A9 c9 w9 hown9 hup9
          have hg9 := gr_alloc (World.grownBy.refl w5 none) (.cells #[.int .i64 (a + s0), .int .i64 s2, .string s1, .string ⟨#[]⟩, .string ⟨#[]⟩] 60)
          have ho9 := (ho.pure hg9).upd (lo := w1.heap.size) (by omega) hb1 hup9
          have hsz9 := hup9.size
          simp at hsz9
          go_wp2
          (go_roundw; (case rel => exact ⟨k + 1, a + s0, l ++ [⟨a + s0, s2, s1, ⟨#[]⟩, ⟨#[]⟩⟩], A9, c9, by omega, by go_num, rfl, by omega, by simp, by simp [Hid, hlk.out], hown9, ho9.mono (by omega), by omega⟩); (case measure => simp [intOf]; omega))
    · have hl1 : l.length ≤ 16 := by have := hlk.out; omega
      have hoB : SOut b (N + 85) w wr := ho.mono (by omega)
      clear ho hlk hr
      by_cases h0 : 0 < l.length
      · have hb0 : decide (((l.length : Nat) : Int) > 0) = true := by simp; omega
        go_wp2_with fail
        refine (flip_any b (N + 85) _ _ hoB.2 (by omega) (by omega)).mono ?_
        rintro e w2 ⟨f, rfl, ho2⟩
        replace hoB := hoB.trans ho2
        replace hown := hown.s ho2 hb1
        have hsz2 := ho2.size
        clear ho2
        cases f with
        | false =>
          go_wp2_with fail
          go_ret
          exact ⟨l, _, _, rfl, hown.sl.mono (by omega), hl1, hown.cap, hoB.mono (by omega)⟩
        | true =>
          go_wp2_with fail
          refine (next_any b (N + 85 + 1) _ _ hoB.2 (by omega) (by omega)).mono ?_
          rintro e w3 ⟨q, rfl, ⟨hq0, hq1⟩, ho3⟩
          obtain ⟨q, rfl⟩ := Int.eq_ofNat_of_zero_le hq0
          replace hoB := hoB.trans ho3
          replace hown := hown.s ho3 hb1
          have hql : q < l.length := by omega
          obtain ⟨g, rfl, hgl, -⟩ := hown.shape (by omega)
          clear ho3
          go_upto_region 16 with fail
          refine wp_region_tree (fun wx => Own wx w1.heap.size 60 (some ⟨g, 0, none⟩) c' l) [2, 2, 2, 2, 2, 2, 2, 2, 1, 0, 0, 2, 0, 2, 2, 2, 2, 1, 0, 0, 2, 2, 2, 2, 1, 0, 0, 2, 2, 0, 2, 2, 0, 2, 2, 0, 2, 2, 0] (.bl 0 (.bl 1 (.bl 2 (.bl 3 (.bl 4 (.bl 5 (.bl 6 (.bl 7 (.bl 8 (.bl 11 (.bl 13 (.bl 14 (.bl 15 (.bl 16 (.bl 17 (.bl 20 (.bl 21 (.bl 22 (.bl 23 (.bl 24 (.alt (.ef 9 (.alt (.ef 10 (.alt (.ef 12 (.alt (.ef 18 (.alt (.ef 19 (.ef 25 (.ef 26 (.bl 27 (.bl 28 (.ef 29 (.bl 30 (.bl 31 (.ef 32 (.bl 33 (.bl 34 (.ef 35 (.bl 36 (.bl 37 (.ef 38 .done))))))))))))))) (.ef 25 (.ef 19 (.ef 26 (.bl 27 (.bl 28 (.ef 29 (.bl 30 (.bl 31 (.ef 32 (.bl 33 (.bl 34 (.ef 35 (.bl 36 (.bl 37 (.ef 38 .done))))))))))))))))) (.ef 25 (.ef 18 (.ef 19 (.ef 26 (.bl 27 (.bl 28 (.ef 29 (.bl 30 (.bl 31 (.ef 32 (.bl 33 (.bl 34 (.ef 35 (.bl 36 (.bl 37 (.ef 38 .done)))))))))))))))))) (.alt (.ef 18 (.alt (.ef 12 (.alt (.ef 19 (.ef 25 (.ef 26 (.bl 27 (.bl 28 (.ef 29 (.bl 30 (.bl 31 (.ef 32 (.bl 33 (.bl 34 (.ef 35 (.bl 36 (.bl 37 (.ef 38 .done))))))))))))))) (.ef 25 (.ef 19 (.ef 26 (.bl 27 (.bl 28 (.ef 29 (.bl 30 (.bl 31 (.ef 32 (.bl 33 (.bl 34 (.ef 35 (.bl 36 (.bl 37 (.ef 38 .done))))))))))))))))) (.ef 25 (.ef 12 (.ef 19 (.ef 26 (.bl 27 (.bl 28 (.ef 29 (.bl 30 (.bl 31 (.ef 32 (.bl 33 (.bl 34 (.ef 35 (.bl 36 (.bl 37 (.ef 38 .done)))))))))))))))))) (.ef 25 (.alt (.ef 12 (.ef 18 (.ef 19 (.ef 26 (.bl 27 (.bl 28 (.ef 29 (.bl 30 (.bl 31 (.ef 32 (.bl 33 (.bl 34 (.ef 35 (.bl 36 (.bl 37 (.ef 38 .done)))))))))))))))) (.ef 18 (.ef 12 (.ef 19 (.ef 26 (.bl 27 (.bl 28 (.ef 29 (.bl 30 (.bl 31 (.ef 32 (.bl 33 (.bl 34 (.ef 35 (.bl 36 (.bl 37 (.ef 38 .done))))))))))))))))))))) (.alt (.ef 18 (.alt (.ef 10 (.alt (.ef 12 (.alt (.ef 19 (.ef 25 (.ef 26 (.bl 27 (.bl 28 (.ef 29 (.bl 30 (.bl 31 (.ef 32 (.bl 33 (.bl 34 (.ef 35 (.bl 36 (.bl 37 (.ef 38 .done))))))))))))))) (.ef 25 (.ef 19 (.ef 26 (.bl 27 (.bl 28 (.ef 29 (.bl 30 (.bl 31 (.ef 32 (.bl 33 (.bl 34 (.ef 35 (.bl 36 (.bl 37 (.ef 38 .done))))))))))))))))) (.ef 25 (.ef 12 (.ef 19 (.ef 26 (.bl 27 (.bl 28 (.ef 29 (.bl 30 (.bl 31 (.ef 32 (.bl 33 (.bl 34 (.ef 35 (.bl 36 (.bl 37 (.ef 38 .done)))))))))))))))))) (.ef 25 (.ef 10 (.ef 12 (.ef 19 (.ef 26 (.bl 27 (.bl 28 (.ef 29 (.bl 30 (.bl 31 (.ef 32 (.bl 33 (.bl 34 (.ef 35 (.bl 36 (.bl 37 (.ef 38 .done))))))))))))))))))) (.ef 25 (.alt (.ef 10 (.alt (.ef 12 (.ef 18 (.ef 19 (.ef 26 (.bl 27 (.bl 28 (.ef 29 (.bl 30 (.bl 31 (.ef 32 (.bl 33 (.bl 34 (.ef 35 (.bl 36 (.bl 37 (.ef 38 .done)))))))))))))))) (.ef 18 (.ef 12 (.ef 19 (.ef 26 (.bl 27 (.bl 28 (.ef 29 (.bl 30 (.bl 31 (.ef 32 (.bl 33 (.bl 34 (.ef 35 (.bl 36 (.bl 37 (.ef 38 .done)))))))))))))))))) (.ef 18 (.ef 10 (.ef 12 (.ef 19 (.ef 26 (.bl 27 (.bl 28 (.ef 29 (.bl 30 (.bl 31 (.ef 32 (.bl 33 (.bl 34 (.ef 35 (.bl 36 (.bl 37 (.ef 38 .done)))))))))))))))))))))) (.alt (.ef 18 (.alt (.ef 9 (.alt (.ef 10 (.alt (.ef 12 (.alt (.ef 19 (.ef 25 (.ef 26 (.bl 27 (.bl 28 (.ef 29 (.bl 30 (.bl 31 (.ef 32 (.bl 33 (.bl 34 (.ef 35 (.bl 36 (.bl 37 (.ef 38 .done))))))))))))))) (.ef 25 (.ef 19 (.ef 26 (.bl 27 (.bl 28 (.ef 29 (.bl 30 (.bl 31 (.ef 32 (.bl 33 (.bl 34 (.ef 35 (.bl 36 (.bl 37 (.ef 38 .done))))))))))))))))) (.ef 25 (.ef 12 (.ef 19 (.ef 26 (.bl 27 (.bl 28 (.ef 29 (.bl 30 (.bl 31 (.ef 32 (.bl 33 (.bl 34 (.ef 35 (.bl 36 (.bl 37 (.ef 38 .done)))))))))))))))))) (.ef 25 (.ef 10 (.ef 12 (.ef 19 (.ef 26 (.bl 27 (.bl 28 (.ef 29 (.bl 30 (.bl 31 (.ef 32 (.bl 33 (.bl 34 (.ef 35 (.bl 36 (.bl 37 (.ef 38 .done))))))))))))))))))) (.ef 25 (.ef 9 (.ef 10 (.ef 12 (.ef 19 (.ef 26 (.bl 27 (.bl 28 (.ef 29 (.bl 30 (.bl 31 (.ef 32 (.bl 33 (.bl 34 (.ef 35 (.bl 36 (.bl 37 (.ef 38 .done)))))))))))))))))))) (.ef 25 (.alt (.ef 9 (.alt (.ef 10 (.alt (.ef 12 (.ef 18 (.ef 19 (.ef 26 (.bl 27 (.bl 28 (.ef 29 (.bl 30 (.bl 31 (.ef 32 (.bl 33 (.bl 34 (.ef 35 (.bl 36 (.bl 37 (.ef 38 .done)))))))))))))))) (.ef 18 (.ef 12 (.ef 19 (.ef 26 (.bl 27 (.bl 28 (.ef 29 (.bl 30 (.bl 31 (.ef 32 (.bl 33 (.bl 34 (.ef 35 (.bl 36 (.bl 37 (.ef 38 .done)))))))))))))))))) (.ef 18 (.ef 10 (.ef 12 (.ef 19 (.ef 26 (.bl 27 (.bl 28 (.ef 29 (.bl 30 (.bl 31 (.ef 32 (.bl 33 (.bl 34 (.ef 35 (.bl 36 (.bl 37 (.ef 38 .done))))))))))))))))))) (.ef 18 (.ef 9 (.ef 10 (.ef 12 (.ef 19 (.ef 26 (.bl 27 (.bl 28 (.ef 29 (.bl 30 (.bl 31 (.ef 32 (.bl 33 (.bl 34 (.ef 35 (.bl 36 (.bl 37 (.ef 38 .done)))))))))))))))))))))))))))))))))))))))))) (by kernel_rfl) (by kernel_rfl) (hown.pure (gr_drew (World.grownBy.refl _ _))) ?_
          obtain ⟨W1, hW1⟩ : ∃ x, x = (w3).drew := ⟨_, rfl⟩
          rw [← hW1]
          have hgW1 : (w3).grownBy W1 none := by rw [hW1]; exact gr_drew (World.grownBy.refl _ _)
          clear hW1
          replace hoB := hoB.pure hgW1
          replace hown := hown.pure hgW1
          refine tree_p rfl rfl rfl rfl _ rfl (by simp) (fun K hK => ?_)
          apply Exists.intro
          refine ⟨fun wq K' hK' => ?_, ?_⟩
          · go_wp2_with fail
            exact hK'
          go_simp
          refine hK _ ?_
          clear hK K
          refine tree_p rfl rfl rfl rfl _ rfl (by simp) (fun K hK => ?_)
          apply Exists.intro
          refine ⟨fun wq K' hK' => ?_, ?_⟩
          · go_wp2_with fail
            exact hK'
          go_simp
          refine hK _ ?_
          clear hK K
          refine tree_p rfl rfl rfl rfl _ rfl (by simp) (fun K hK => ?_)
          apply Exists.intro
          refine ⟨fun wq K' hK' => ?_, ?_⟩
          · go_wp2_with fail
            exact hK'
          go_simp
          refine hK _ ?_
          clear hK K
          refine tree_p rfl rfl rfl rfl _ rfl (by simp) (fun K hK => ?_)
          apply Exists.intro
          refine ⟨fun wq K' hK' => ?_, ?_⟩
          · go_wp2_with fail
            exact hK'
          go_simp
          refine hK _ ?_
          clear hK K
          refine tree_p rfl rfl rfl rfl _ rfl (by simp) (fun K hK => ?_)
          apply Exists.intro
          refine ⟨fun wq K' hK' => ?_, ?_⟩
          · go_wp2_with fail
            exact hK'
          go_simp
          refine hK _ ?_
          clear hK K
          refine tree_p rfl rfl rfl rfl _ rfl (by simp) (fun K hK => ?_)
          apply Exists.intro
          refine ⟨fun wq K' hK' => ?_, ?_⟩
          · go_wp2_with fail
            exact hK'
          go_simp
          refine hK _ ?_
          clear hK K
          refine tree_n rfl rfl _ rfl _ rfl ?_
          try go_simp
          refine tree_p rfl rfl rfl rfl _ rfl (by simp) (fun K hK => ?_)
          apply Exists.intro
          refine ⟨fun wq K' hK' => ?_, ?_⟩
          · go_wp2_with fail
            exact hK'
          go_simp
          refine hK _ ?_
          clear hK K
          refine tree_b rfl rfl rfl rfl _ rfl (by simp) (fun K hK => ?_)
          apply Exists.intro
          refine ⟨fun wq hq K' hK' => ?_, ?_⟩
          · obtain ⟨cq, rfl, hc⟩ := hq.cell_at (by decide) hql
            have c0 : wq.cell? ⟨g, q * 5, none⟩ = some (.int .i64 l[q].at_) := hc 0 _ rfl
            have c2 : wq.cell? ⟨g, q * 5 + 2, none⟩ = some (.string l[q].pr) := hc 2 _ rfl
            have c3 : wq.cell? ⟨g, q * 5 + 3, none⟩ = some (.string l[q].job) := hc 3 _ rfl
            clear hc
            go_wp2_with fail
            exact hK'
          go_simp
          refine hK _ ?_
          clear hK K
          refine tree_p rfl rfl rfl rfl _ rfl (by simp) (fun K hK => ?_)
          apply Exists.intro
          refine ⟨fun wq K' hK' => ?_, ?_⟩
          · go_wp2_with fail
            exact hK'
          go_simp
          refine hK _ ?_
          clear hK K
          refine tree_p rfl rfl rfl rfl _ rfl (by simp) (fun K hK => ?_)
          apply Exists.intro
          refine ⟨fun wq K' hK' => ?_, ?_⟩
          · go_wp2_with fail
            exact hK'
          go_simp
          refine hK _ ?_
          clear hK K
          refine tree_p rfl rfl rfl rfl _ rfl (by simp) (fun K hK => ?_)
          apply Exists.intro
          refine ⟨fun wq K' hK' => ?_, ?_⟩
          · go_wp2_with fail
            exact hK'
          go_simp
          refine hK _ ?_
          clear hK K
          refine tree_n rfl rfl _ rfl _ rfl ?_
          try go_simp
          refine tree_p rfl rfl rfl rfl _ rfl (by simp) (fun K hK => ?_)
          apply Exists.intro
          refine ⟨fun wq K' hK' => ?_, ?_⟩
          · go_wp2_with fail
            exact hK'
          go_simp
          refine hK _ ?_
          clear hK K
          refine tree_b rfl rfl rfl rfl _ rfl (by simp) (fun K hK => ?_)
          apply Exists.intro
          refine ⟨fun wq hq K' hK' => ?_, ?_⟩
          · obtain ⟨cq, rfl, hc⟩ := hq.cell_at (by decide) hql
            have c0 : wq.cell? ⟨g, q * 5, none⟩ = some (.int .i64 l[q].at_) := hc 0 _ rfl
            have c2 : wq.cell? ⟨g, q * 5 + 2, none⟩ = some (.string l[q].pr) := hc 2 _ rfl
            have c3 : wq.cell? ⟨g, q * 5 + 3, none⟩ = some (.string l[q].job) := hc 3 _ rfl
            clear hc
            go_wp2_with fail
            exact hK'
          go_simp
          refine hK _ ?_
          clear hK K
          refine tree_p rfl rfl rfl rfl _ rfl (by simp) (fun K hK => ?_)
          apply Exists.intro
          refine ⟨fun wq K' hK' => ?_, ?_⟩
          · go_wp2_with fail
            exact hK'
          go_simp
          refine hK _ ?_
          clear hK K
          refine tree_p rfl rfl rfl rfl _ rfl (by simp) (fun K hK => ?_)
          apply Exists.intro
          refine ⟨fun wq K' hK' => ?_, ?_⟩
          · go_wp2_with fail
            exact hK'
          go_simp
          refine hK _ ?_
          clear hK K
          refine tree_n rfl rfl _ rfl _ rfl ?_
          try go_simp
          refine tree_p rfl rfl rfl rfl _ rfl (by simp) (fun K hK => ?_)
          apply Exists.intro
          refine ⟨fun wq K' hK' => ?_, ?_⟩
          · go_wp2_with fail
            exact hK'
          go_simp
          refine hK _ ?_
          clear hK K
          refine tree_b rfl rfl rfl rfl _ rfl (by simp) (fun K hK => ?_)
          apply Exists.intro
          refine ⟨fun wq hq K' hK' => ?_, ?_⟩
          · obtain ⟨cq, rfl, hc⟩ := hq.cell_at (by decide) hql
            have c0 : wq.cell? ⟨g, q * 5, none⟩ = some (.int .i64 l[q].at_) := hc 0 _ rfl
            have c2 : wq.cell? ⟨g, q * 5 + 2, none⟩ = some (.string l[q].pr) := hc 2 _ rfl
            have c3 : wq.cell? ⟨g, q * 5 + 3, none⟩ = some (.string l[q].job) := hc 3 _ rfl
            clear hc
            go_wp2_with fail
            exact hK'
          go_simp
          refine hK _ ?_
          clear hK K
          refine tree_alt ?_ ?_
          · refine tree_e rfl rfl (fun K hK => ?_)
            go_wp2_with fail
            try go_simp
            refine hK _ _ ((hown.pure (gr_alloc (World.grownBy.refl _ _) _))) ?_
            clear hK K
            obtain ⟨w9, hw9⟩ : ∃ x, x = (W1).alloc (.cells [.int .i64 l[q].at_, .int .i64 (-1), .int .i64 0].toArray 3) := ⟨_, rfl⟩
            have hg9 : (W1).grownBy w9 none := by rw [hw9]; exact gr_alloc (World.grownBy.refl _ _) _
            have hb9 : Box w9 (W1).heap.size 3 [.int .i64 l[q].at_, .int .i64 (-1), .int .i64 0] := by rw [hw9]; exact Box.new _ _ _
            rw [← hw9]
            clear hw9
            obtain ⟨x9, hx9⟩ : ∃ x, x = (W1).heap.size := ⟨_, rfl⟩
            rw [← hx9] at hb9 ⊢
            have hxl9 : (W1).heap.size ≤ x9 := by omega
            clear hx9
            have hbx9 : b < x9 := by have := hoB.lt; omega
            replace hoB := hoB.pure hg9
            replace hown := hown.pure hg9
            refine tree_alt ?_ ?_
            · refine tree_e rfl rfl (fun K hK => ?_)
              go_wp2_with fail
              refine (pick_any b _ _ _ _ [l[q].at_, -1, 0] w9 hoB.2 (by omega) (hb9.sl (row_ints _ _ _) (by omega) (by simp [maxLen])) rfl (by simp)).mono ?_
              rintro e w10 ⟨s10, rfl, _, ho10⟩
              go_wp2_with fail
              try go_simp
              refine hK _ _ ((hown.s ho10 hb1)) ?_
              clear hK K
              replace hoB := hoB.trans ho10
              replace hown := hown.s ho10 hb1
              refine tree_alt ?_ ?_
              · refine tree_e rfl rfl (fun K hK => ?_)
                go_wp2_with fail
                refine (odd_any b _ _ _ w10 hoB.2 (by omega) (by omega) (by omega) (by omega)).mono ?_
                rintro e w12 ⟨s12, rfl, _, ho12⟩
                go_wp2_with fail
                try go_simp
                refine hK _ _ ((hown.s ho12 hb1)) ?_
                clear hK K
                replace hoB := hoB.trans ho12
                replace hown := hown.s ho12 hb1
                refine tree_alt ?_ ?_
                · refine tree_e rfl rfl (fun K hK => ?_)
                  go_wp2_with fail
                  try go_simp
                  refine hK _ _ ((hown.pure (gr_alloc (World.grownBy.refl _ _) _))) ?_
                  clear hK K
                  obtain ⟨w18, hw18⟩ : ∃ x, x = (w12).alloc (.cells [.string l[q].pr, .string ⟨#[122, 122]⟩, .string ⟨#[]⟩].toArray 9) := ⟨_, rfl⟩
                  have hg18 : (w12).grownBy w18 none := by rw [hw18]; exact gr_alloc (World.grownBy.refl _ _) _
                  have hb18 : Box w18 (w12).heap.size 9 [.string l[q].pr, .string ⟨#[122, 122]⟩, .string ⟨#[]⟩] := by rw [hw18]; exact Box.new _ _ _
                  rw [← hw18]
                  clear hw18
                  obtain ⟨x18, hx18⟩ : ∃ x, x = (w12).heap.size := ⟨_, rfl⟩
                  rw [← hx18] at hb18 ⊢
                  have hxl18 : (w12).heap.size ≤ x18 := by omega
                  clear hx18
                  have hbx18 : b < x18 := by have := hoB.lt; omega
                  replace hoB := hoB.pure hg18
                  replace hown := hown.pure hg18
                  refine tree_alt ?_ ?_
                  · refine tree_e rfl rfl (fun K hK => ?_)
                    go_wp2_with fail
                    refine (some_any b _ _ _ _ [l[q].pr, ⟨#[122, 122]⟩, ⟨#[]⟩] w18 hoB.2 (by omega) (hb18.sl (row_strs _ _ _) (by omega) (by simp [maxLen])) rfl (by simp)).mono ?_
                    rintro e w19 ⟨s19, rfl, ho19⟩
                    go_wp2_with fail
                    try go_simp
                    refine hK _ _ ((hown.s ho19 hb1)) ?_
                    clear hK K
                    replace hoB := hoB.trans ho19
                    replace hown := hown.s ho19 hb1
                    refine tree_e rfl rfl (fun K hK => ?_)
                    go_wp2_with fail
                    try go_simp
                    refine hK _ _ ((hown.pure (gr_alloc (World.grownBy.refl _ _) _))) ?_
                    clear hK K
                    obtain ⟨w25, hw25⟩ : ∃ x, x = (w19).alloc (.cells [.string l[q].job, .string ⟨#[74]⟩, .string ⟨#[106, 49]⟩].toArray 9) := ⟨_, rfl⟩
                    have hg25 : (w19).grownBy w25 none := by rw [hw25]; exact gr_alloc (World.grownBy.refl _ _) _
                    have hb25 : Box w25 (w19).heap.size 9 [.string l[q].job, .string ⟨#[74]⟩, .string ⟨#[106, 49]⟩] := by rw [hw25]; exact Box.new _ _ _
                    rw [← hw25]
                    clear hw25
                    obtain ⟨x25, hx25⟩ : ∃ x, x = (w19).heap.size := ⟨_, rfl⟩
                    rw [← hx25] at hb25 ⊢
                    have hxl25 : (w19).heap.size ≤ x25 := by omega
                    clear hx25
                    have hbx25 : b < x25 := by have := hoB.lt; omega
                    replace hoB := hoB.pure hg25
                    replace hown := hown.pure hg25
                    refine tree_e0 (by kernel_rfl) rfl rfl (fun K hK => ?_)
                    go_wp2_with fail
                    refine (some_any b _ _ _ _ [l[q].job, ⟨#[74]⟩, ⟨#[106, 49]⟩] w25 hoB.2 (by omega) (hb25.sl (row_strs _ _ _) (by omega) (by simp [maxLen])) rfl (by simp)).mono ?_
                    rintro e w26 ⟨s26, rfl, ho26⟩
                    go_wp2_with fail
                    try go_simp
                    refine hK _ _ trivial ?_
                    clear hK K
                    replace hoB := hoB.trans ho26
                    replace hown := hown.s ho26 hb1
                    refine tree_n rfl rfl _ rfl _ rfl ?_
                    try go_simp
                    refine tree_p rfl rfl rfl rfl _ rfl (by simp) (fun K hK => ?_)
                    apply Exists.intro
                    refine ⟨fun wq K' hK' => ?_, ?_⟩
                    · go_wp2_with fail
                      exact hK'
                    go_simp
                    refine hK _ ?_
                    clear hK K
                    refine tree_e0 (by kernel_rfl) rfl rfl (fun K hK => ?_)
                    have f0 := hown.frozen (q * 5)
                    obtain ⟨cq, rfl, hc⟩ := hown.cell_at (by decide) hql
                    have c0 : w26.cell? ⟨g, q * 5, none⟩ = some (.int .i64 l[q].at_) := hc 0 _ rfl
                    clear hc
                    go_wp2_with fail
                    try go_simp
                    refine hK _ _ trivial ?_
                    clear hK K
                    obtain ⟨l2, hown2, hlen2⟩ : ∃ x : List Ev, Own ((w26).setCell ⟨g, q * 5, none⟩ (.int .i64 s10)) w1.heap.size 60 (some ⟨g, 0, none⟩) c' x ∧ x.length = l.length := ⟨_, Own.set_ev0 hown hql s10, by rw [List.length_set]; skip⟩
                    have hoB2 := hoB.set hbw (p := ⟨g, q * 5, none⟩) (by simp only; omega) (.int .i64 s10)
                    have hql2 : q < l2.length := by omega
                    replace hlen2 := hide hlen2
                    obtain ⟨w29, hwn⟩ : ∃ x, x = (w26).setCell ⟨g, q * 5, none⟩ (.int .i64 s10) := ⟨_, rfl⟩
                    rw [← hwn] at hown2 hoB2 ⊢
                    clear hwn
                    refine tree_n rfl rfl _ rfl _ rfl ?_
                    try go_simp
                    refine tree_p rfl rfl rfl rfl _ rfl (by simp) (fun K hK => ?_)
                    apply Exists.intro
                    refine ⟨fun wq K' hK' => ?_, ?_⟩
                    · go_wp2_with fail
                      exact hK'
                    go_simp
                    refine hK _ ?_
                    clear hK K
                    refine tree_e0 (by kernel_rfl) rfl rfl (fun K hK => ?_)
                    have f1 := hown2.frozen (q * 5 + 1)
                    obtain ⟨cq, rfl, hc⟩ := hown2.cell_at (by decide) hql2
                    have c1 : w29.cell? ⟨g, q * 5 + 1, none⟩ = some (.int .i64 l2[q].kind) := hc 1 _ rfl
                    clear hc
                    go_wp2_with fail
                    try go_simp
                    refine hK _ _ trivial ?_
                    clear hK K
                    obtain ⟨l3, hown3, hlen3⟩ : ∃ x : List Ev, Own ((w29).setCell ⟨g, q * 5+ 1, none⟩ (.int .i64 s12)) w1.heap.size 60 (some ⟨g, 0, none⟩) c' x ∧ x.length = l.length := ⟨_, Own.set_ev1 hown2 hql2 s12, by rw [List.length_set]; exact hlen2.out⟩
                    have hoB3 := hoB2.set hbw (p := ⟨g, q * 5+ 1, none⟩) (by simp only; omega) (.int .i64 s12)
                    have hql3 : q < l3.length := by omega
                    replace hlen3 := hide hlen3
                    obtain ⟨w32, hwn⟩ : ∃ x, x = (w29).setCell ⟨g, q * 5+ 1, none⟩ (.int .i64 s12) := ⟨_, rfl⟩
                    rw [← hwn] at hown3 hoB3 ⊢
                    clear hwn
                    refine tree_n rfl rfl _ rfl _ rfl ?_
                    try go_simp
                    refine tree_p rfl rfl rfl rfl _ rfl (by simp) (fun K hK => ?_)
                    apply Exists.intro
                    refine ⟨fun wq K' hK' => ?_, ?_⟩
                    · go_wp2_with fail
                      exact hK'
                    go_simp
                    refine hK _ ?_
                    clear hK K
                    refine tree_e0 (by kernel_rfl) rfl rfl (fun K hK => ?_)
                    have f2 := hown3.frozen (q * 5 + 2)
                    obtain ⟨cq, rfl, hc⟩ := hown3.cell_at (by decide) hql3
                    have c2 : w32.cell? ⟨g, q * 5 + 2, none⟩ = some (.string l3[q].pr) := hc 2 _ rfl
                    clear hc
                    go_wp2_with fail
                    try go_simp
                    refine hK _ _ trivial ?_
                    clear hK K
                    obtain ⟨l4, hown4, hlen4⟩ : ∃ x : List Ev, Own ((w32).setCell ⟨g, q * 5+ 2, none⟩ (.string s19)) w1.heap.size 60 (some ⟨g, 0, none⟩) c' x ∧ x.length = l.length := ⟨_, Own.set_ev2 hown3 hql3 s19, by rw [List.length_set]; exact hlen3.out⟩
                    have hoB4 := hoB3.set hbw (p := ⟨g, q * 5+ 2, none⟩) (by simp only; omega) (.string s19)
                    have hql4 : q < l4.length := by omega
                    replace hlen4 := hide hlen4
                    obtain ⟨w35, hwn⟩ : ∃ x, x = (w32).setCell ⟨g, q * 5+ 2, none⟩ (.string s19) := ⟨_, rfl⟩
                    rw [← hwn] at hown4 hoB4 ⊢
                    clear hwn
                    refine tree_n rfl rfl _ rfl _ rfl ?_
                    try go_simp
                    refine tree_p rfl rfl rfl rfl _ rfl (by simp) (fun K hK => ?_)
                    apply Exists.intro
                    refine ⟨fun wq K' hK' => ?_, ?_⟩
                    · go_wp2_with fail
                      exact hK'
                    go_simp
                    refine hK _ ?_
                    clear hK K
                    refine tree_e0 (by kernel_rfl) rfl rfl (fun K hK => ?_)
                    have f3 := hown4.frozen (q * 5 + 3)
                    obtain ⟨cq, rfl, hc⟩ := hown4.cell_at (by decide) hql4
                    have c3 : w35.cell? ⟨g, q * 5 + 3, none⟩ = some (.string l4[q].job) := hc 3 _ rfl
                    clear hc
                    go_wp2_with fail
                    try go_simp
                    refine hK _ _ trivial ?_
                    clear hK K
                    refine tree_done ?_
                    obtain ⟨l5, hown5, hlen5⟩ : ∃ x : List Ev, Own ((w35).setCell ⟨g, q * 5+ 3, none⟩ (.string s26)) w1.heap.size 60 (some ⟨g, 0, none⟩) c' x ∧ x.length = l.length := ⟨_, Own.set_ev3 hown4 hql4 s26, by rw [List.length_set]; exact hlen4.out⟩
                    have hoB5 := hoB4.set hbw (p := ⟨g, q * 5+ 3, none⟩) (by simp only; omega) (.string s26)
                    have hql5 : q < l5.length := by omega
                    replace hlen5 := hide hlen5
                    obtain ⟨w38, hwn⟩ : ∃ x, x = (w35).setCell ⟨g, q * 5+ 3, none⟩ (.string s26) := ⟨_, rfl⟩
                    rw [← hwn] at hown5 hoB5 ⊢
                    clear hwn
                    rw [← hlen5.out]
                    have hl5 : l5.length ≤ 16 := by have := hlen5.out; omega
                    clear hlen5 hlen4 hlen3 hlen2 hown hown2 hown3 hown4 hoB hoB2 hoB3 hoB4
                    go_wp2_with fail
                    go_ret
                    exact ⟨l5, _, _, rfl, hown5.sl.mono (by omega), hl5, hown5.cap, hoB5.mono (by omega)⟩
                  · refine tree_e rfl rfl (fun K hK => ?_)
                    go_wp2_with fail
                    try go_simp
                    refine hK _ _ ((hown.pure (gr_alloc (World.grownBy.refl _ _) _))) ?_
                    clear hK K
                    obtain ⟨w25, hw25⟩ : ∃ x, x = (w18).alloc (.cells [.string l[q].job, .string ⟨#[74]⟩, .string ⟨#[106, 49]⟩].toArray 9) := ⟨_, rfl⟩
                    have hg25 : (w18).grownBy w25 none := by rw [hw25]; exact gr_alloc (World.grownBy.refl _ _) _
                    have hb25 : Box w25 (w18).heap.size 9 [.string l[q].job, .string ⟨#[74]⟩, .string ⟨#[106, 49]⟩] := by rw [hw25]; exact Box.new _ _ _
                    rw [← hw25]
                    clear hw25
                    obtain ⟨x25, hx25⟩ : ∃ x, x = (w18).heap.size := ⟨_, rfl⟩
                    rw [← hx25] at hb25 ⊢
                    have hxl25 : (w18).heap.size ≤ x25 := by omega
                    clear hx25
                    have hbx25 : b < x25 := by have := hoB.lt; omega
                    replace hoB := hoB.pure hg25
                    replace hown := hown.pure hg25
                    replace hb18 := hb18.pure hg25
                    refine tree_e rfl rfl (fun K hK => ?_)
                    go_wp2_with fail
                    refine (some_any b _ _ _ _ [l[q].pr, ⟨#[122, 122]⟩, ⟨#[]⟩] w25 hoB.2 (by omega) (hb18.sl (row_strs _ _ _) (by omega) (by simp [maxLen])) rfl (by simp)).mono ?_
                    rintro e w19 ⟨s19, rfl, ho19⟩
                    go_wp2_with fail
                    try go_simp
                    refine hK _ _ ((hown.s ho19 hb1)) ?_
                    clear hK K
                    replace hoB := hoB.trans ho19
                    replace hown := hown.s ho19 hb1
                    replace hb25 := hb25.gr ho19.1 (fun e => by injection e; omega)
                    refine tree_e0 (by kernel_rfl) rfl rfl (fun K hK => ?_)
                    go_wp2_with fail
                    refine (some_any b _ _ _ _ [l[q].job, ⟨#[74]⟩, ⟨#[106, 49]⟩] w19 hoB.2 (by omega) (hb25.sl (row_strs _ _ _) (by omega) (by simp [maxLen])) rfl (by simp)).mono ?_
                    rintro e w26 ⟨s26, rfl, ho26⟩
                    go_wp2_with fail
                    try go_simp
                    refine hK _ _ trivial ?_
                    clear hK K
                    replace hoB := hoB.trans ho26
                    replace hown := hown.s ho26 hb1
                    refine tree_n rfl rfl _ rfl _ rfl ?_
                    try go_simp
                    refine tree_p rfl rfl rfl rfl _ rfl (by simp) (fun K hK => ?_)
                    apply Exists.intro
                    refine ⟨fun wq K' hK' => ?_, ?_⟩
                    · go_wp2_with fail
                      exact hK'
                    go_simp
                    refine hK _ ?_
                    clear hK K
                    refine tree_e0 (by kernel_rfl) rfl rfl (fun K hK => ?_)
                    have f0 := hown.frozen (q * 5)
                    obtain ⟨cq, rfl, hc⟩ := hown.cell_at (by decide) hql
                    have c0 : w26.cell? ⟨g, q * 5, none⟩ = some (.int .i64 l[q].at_) := hc 0 _ rfl
                    clear hc
                    go_wp2_with fail
                    try go_simp
                    refine hK _ _ trivial ?_
                    clear hK K
                    obtain ⟨l2, hown2, hlen2⟩ : ∃ x : List Ev, Own ((w26).setCell ⟨g, q * 5, none⟩ (.int .i64 s10)) w1.heap.size 60 (some ⟨g, 0, none⟩) c' x ∧ x.length = l.length := ⟨_, Own.set_ev0 hown hql s10, by rw [List.length_set]; skip⟩
                    have hoB2 := hoB.set hbw (p := ⟨g, q * 5, none⟩) (by simp only; omega) (.int .i64 s10)
                    have hql2 : q < l2.length := by omega
                    replace hlen2 := hide hlen2
                    obtain ⟨w29, hwn⟩ : ∃ x, x = (w26).setCell ⟨g, q * 5, none⟩ (.int .i64 s10) := ⟨_, rfl⟩
                    rw [← hwn] at hown2 hoB2 ⊢
                    clear hwn
                    refine tree_n rfl rfl _ rfl _ rfl ?_
                    try go_simp
                    refine tree_p rfl rfl rfl rfl _ rfl (by simp) (fun K hK => ?_)
                    apply Exists.intro
                    refine ⟨fun wq K' hK' => ?_, ?_⟩
                    · go_wp2_with fail
                      exact hK'
                    go_simp
                    refine hK _ ?_
                    clear hK K
                    refine tree_e0 (by kernel_rfl) rfl rfl (fun K hK => ?_)
                    have f1 := hown2.frozen (q * 5 + 1)
                    obtain ⟨cq, rfl, hc⟩ := hown2.cell_at (by decide) hql2
                    have c1 : w29.cell? ⟨g, q * 5 + 1, none⟩ = some (.int .i64 l2[q].kind) := hc 1 _ rfl
                    clear hc
                    go_wp2_with fail
                    try go_simp
                    refine hK _ _ trivial ?_
                    clear hK K
                    obtain ⟨l3, hown3, hlen3⟩ : ∃ x : List Ev, Own ((w29).setCell ⟨g, q * 5+ 1, none⟩ (.int .i64 s12)) w1.heap.size 60 (some ⟨g, 0, none⟩) c' x ∧ x.length = l.length := ⟨_, Own.set_ev1 hown2 hql2 s12, by rw [List.length_set]; exact hlen2.out⟩
                    have hoB3 := hoB2.set hbw (p := ⟨g, q * 5+ 1, none⟩) (by simp only; omega) (.int .i64 s12)
                    have hql3 : q < l3.length := by omega
                    replace hlen3 := hide hlen3
                    obtain ⟨w32, hwn⟩ : ∃ x, x = (w29).setCell ⟨g, q * 5+ 1, none⟩ (.int .i64 s12) := ⟨_, rfl⟩
                    rw [← hwn] at hown3 hoB3 ⊢
                    clear hwn
                    refine tree_n rfl rfl _ rfl _ rfl ?_
                    try go_simp
                    refine tree_p rfl rfl rfl rfl _ rfl (by simp) (fun K hK => ?_)
                    apply Exists.intro
                    refine ⟨fun wq K' hK' => ?_, ?_⟩
                    · go_wp2_with fail
                      exact hK'
                    go_simp
                    refine hK _ ?_
                    clear hK K
                    refine tree_e0 (by kernel_rfl) rfl rfl (fun K hK => ?_)
                    have f2 := hown3.frozen (q * 5 + 2)
                    obtain ⟨cq, rfl, hc⟩ := hown3.cell_at (by decide) hql3
                    have c2 : w32.cell? ⟨g, q * 5 + 2, none⟩ = some (.string l3[q].pr) := hc 2 _ rfl
                    clear hc
                    go_wp2_with fail
                    try go_simp
                    refine hK _ _ trivial ?_
                    clear hK K
                    obtain ⟨l4, hown4, hlen4⟩ : ∃ x : List Ev, Own ((w32).setCell ⟨g, q * 5+ 2, none⟩ (.string s19)) w1.heap.size 60 (some ⟨g, 0, none⟩) c' x ∧ x.length = l.length := ⟨_, Own.set_ev2 hown3 hql3 s19, by rw [List.length_set]; exact hlen3.out⟩
                    have hoB4 := hoB3.set hbw (p := ⟨g, q * 5+ 2, none⟩) (by simp only; omega) (.string s19)
                    have hql4 : q < l4.length := by omega
                    replace hlen4 := hide hlen4
                    obtain ⟨w35, hwn⟩ : ∃ x, x = (w32).setCell ⟨g, q * 5+ 2, none⟩ (.string s19) := ⟨_, rfl⟩
                    rw [← hwn] at hown4 hoB4 ⊢
                    clear hwn
                    refine tree_n rfl rfl _ rfl _ rfl ?_
                    try go_simp
                    refine tree_p rfl rfl rfl rfl _ rfl (by simp) (fun K hK => ?_)
                    apply Exists.intro
                    refine ⟨fun wq K' hK' => ?_, ?_⟩
                    · go_wp2_with fail
                      exact hK'
                    go_simp
                    refine hK _ ?_
                    clear hK K
                    refine tree_e0 (by kernel_rfl) rfl rfl (fun K hK => ?_)
                    have f3 := hown4.frozen (q * 5 + 3)
                    obtain ⟨cq, rfl, hc⟩ := hown4.cell_at (by decide) hql4
                    have c3 : w35.cell? ⟨g, q * 5 + 3, none⟩ = some (.string l4[q].job) := hc 3 _ rfl
                    clear hc
                    go_wp2_with fail
                    try go_simp
                    refine hK _ _ trivial ?_
                    clear hK K
                    refine tree_done ?_
                    obtain ⟨l5, hown5, hlen5⟩ : ∃ x : List Ev, Own ((w35).setCell ⟨g, q * 5+ 3, none⟩ (.string s26)) w1.heap.size 60 (some ⟨g, 0, none⟩) c' x ∧ x.length = l.length := ⟨_, Own.set_ev3 hown4 hql4 s26, by rw [List.length_set]; exact hlen4.out⟩
                    have hoB5 := hoB4.set hbw (p := ⟨g, q * 5+ 3, none⟩) (by simp only; omega) (.string s26)
                    have hql5 : q < l5.length := by omega
                    replace hlen5 := hide hlen5
                    obtain ⟨w38, hwn⟩ : ∃ x, x = (w35).setCell ⟨g, q * 5+ 3, none⟩ (.string s26) := ⟨_, rfl⟩
                    rw [← hwn] at hown5 hoB5 ⊢
                    clear hwn
                    rw [← hlen5.out]
                    have hl5 : l5.length ≤ 16 := by have := hlen5.out; omega
                    clear hlen5 hlen4 hlen3 hlen2 hown hown2 hown3 hown4 hoB hoB2 hoB3 hoB4
                    go_wp2_with fail
                    go_ret
                    exact ⟨l5, _, _, rfl, hown5.sl.mono (by omega), hl5, hown5.cap, hoB5.mono (by omega)⟩
                · refine tree_e rfl rfl (fun K hK => ?_)
                  go_wp2_with fail
                  try go_simp
                  refine hK _ _ ((hown.pure (gr_alloc (World.grownBy.refl _ _) _))) ?_
                  clear hK K
                  obtain ⟨w25, hw25⟩ : ∃ x, x = (w12).alloc (.cells [.string l[q].job, .string ⟨#[74]⟩, .string ⟨#[106, 49]⟩].toArray 9) := ⟨_, rfl⟩
                  have hg25 : (w12).grownBy w25 none := by rw [hw25]; exact gr_alloc (World.grownBy.refl _ _) _
                  have hb25 : Box w25 (w12).heap.size 9 [.string l[q].job, .string ⟨#[74]⟩, .string ⟨#[106, 49]⟩] := by rw [hw25]; exact Box.new _ _ _
                  rw [← hw25]
                  clear hw25
                  obtain ⟨x25, hx25⟩ : ∃ x, x = (w12).heap.size := ⟨_, rfl⟩
                  rw [← hx25] at hb25 ⊢
                  have hxl25 : (w12).heap.size ≤ x25 := by omega
                  clear hx25
                  have hbx25 : b < x25 := by have := hoB.lt; omega
                  replace hoB := hoB.pure hg25
                  replace hown := hown.pure hg25
                  refine tree_e rfl rfl (fun K hK => ?_)
                  go_wp2_with fail
                  try go_simp
                  refine hK _ _ ((hown.pure (gr_alloc (World.grownBy.refl _ _) _))) ?_
                  clear hK K
                  obtain ⟨w18, hw18⟩ : ∃ x, x = (w25).alloc (.cells [.string l[q].pr, .string ⟨#[122, 122]⟩, .string ⟨#[]⟩].toArray 9) := ⟨_, rfl⟩
                  have hg18 : (w25).grownBy w18 none := by rw [hw18]; exact gr_alloc (World.grownBy.refl _ _) _
                  have hb18 : Box w18 (w25).heap.size 9 [.string l[q].pr, .string ⟨#[122, 122]⟩, .string ⟨#[]⟩] := by rw [hw18]; exact Box.new _ _ _
                  rw [← hw18]
                  clear hw18
                  obtain ⟨x18, hx18⟩ : ∃ x, x = (w25).heap.size := ⟨_, rfl⟩
                  rw [← hx18] at hb18 ⊢
                  have hxl18 : (w25).heap.size ≤ x18 := by omega
                  clear hx18
                  have hbx18 : b < x18 := by have := hoB.lt; omega
                  replace hoB := hoB.pure hg18
                  replace hown := hown.pure hg18
                  replace hb25 := hb25.pure hg18
                  refine tree_e rfl rfl (fun K hK => ?_)
                  go_wp2_with fail
                  refine (some_any b _ _ _ _ [l[q].pr, ⟨#[122, 122]⟩, ⟨#[]⟩] w18 hoB.2 (by omega) (hb18.sl (row_strs _ _ _) (by omega) (by simp [maxLen])) rfl (by simp)).mono ?_
                  rintro e w19 ⟨s19, rfl, ho19⟩
                  go_wp2_with fail
                  try go_simp
                  refine hK _ _ ((hown.s ho19 hb1)) ?_
                  clear hK K
                  replace hoB := hoB.trans ho19
                  replace hown := hown.s ho19 hb1
                  replace hb25 := hb25.gr ho19.1 (fun e => by injection e; omega)
                  refine tree_e0 (by kernel_rfl) rfl rfl (fun K hK => ?_)
                  go_wp2_with fail
                  refine (some_any b _ _ _ _ [l[q].job, ⟨#[74]⟩, ⟨#[106, 49]⟩] w19 hoB.2 (by omega) (hb25.sl (row_strs _ _ _) (by omega) (by simp [maxLen])) rfl (by simp)).mono ?_
                  rintro e w26 ⟨s26, rfl, ho26⟩
                  go_wp2_with fail
                  try go_simp
                  refine hK _ _ trivial ?_
                  clear hK K
                  replace hoB := hoB.trans ho26
                  replace hown := hown.s ho26 hb1
                  refine tree_n rfl rfl _ rfl _ rfl ?_
                  try go_simp
                  refine tree_p rfl rfl rfl rfl _ rfl (by simp) (fun K hK => ?_)
                  apply Exists.intro
                  refine ⟨fun wq K' hK' => ?_, ?_⟩
                  · go_wp2_with fail
                    exact hK'
                  go_simp
                  refine hK _ ?_
                  clear hK K
                  refine tree_e0 (by kernel_rfl) rfl rfl (fun K hK => ?_)
                  have f0 := hown.frozen (q * 5)
                  obtain ⟨cq, rfl, hc⟩ := hown.cell_at (by decide) hql
                  have c0 : w26.cell? ⟨g, q * 5, none⟩ = some (.int .i64 l[q].at_) := hc 0 _ rfl
                  clear hc
                  go_wp2_with fail
                  try go_simp
                  refine hK _ _ trivial ?_
                  clear hK K
                  obtain ⟨l2, hown2, hlen2⟩ : ∃ x : List Ev, Own ((w26).setCell ⟨g, q * 5, none⟩ (.int .i64 s10)) w1.heap.size 60 (some ⟨g, 0, none⟩) c' x ∧ x.length = l.length := ⟨_, Own.set_ev0 hown hql s10, by rw [List.length_set]; skip⟩
                  have hoB2 := hoB.set hbw (p := ⟨g, q * 5, none⟩) (by simp only; omega) (.int .i64 s10)
                  have hql2 : q < l2.length := by omega
                  replace hlen2 := hide hlen2
                  obtain ⟨w29, hwn⟩ : ∃ x, x = (w26).setCell ⟨g, q * 5, none⟩ (.int .i64 s10) := ⟨_, rfl⟩
                  rw [← hwn] at hown2 hoB2 ⊢
                  clear hwn
                  refine tree_n rfl rfl _ rfl _ rfl ?_
                  try go_simp
                  refine tree_p rfl rfl rfl rfl _ rfl (by simp) (fun K hK => ?_)
                  apply Exists.intro
                  refine ⟨fun wq K' hK' => ?_, ?_⟩
                  · go_wp2_with fail
                    exact hK'
                  go_simp
                  refine hK _ ?_
                  clear hK K
                  refine tree_e0 (by kernel_rfl) rfl rfl (fun K hK => ?_)
                  have f1 := hown2.frozen (q * 5 + 1)
                  obtain ⟨cq, rfl, hc⟩ := hown2.cell_at (by decide) hql2
                  have c1 : w29.cell? ⟨g, q * 5 + 1, none⟩ = some (.int .i64 l2[q].kind) := hc 1 _ rfl
                  clear hc
                  go_wp2_with fail
                  try go_simp
                  refine hK _ _ trivial ?_
                  clear hK K
                  obtain ⟨l3, hown3, hlen3⟩ : ∃ x : List Ev, Own ((w29).setCell ⟨g, q * 5+ 1, none⟩ (.int .i64 s12)) w1.heap.size 60 (some ⟨g, 0, none⟩) c' x ∧ x.length = l.length := ⟨_, Own.set_ev1 hown2 hql2 s12, by rw [List.length_set]; exact hlen2.out⟩
                  have hoB3 := hoB2.set hbw (p := ⟨g, q * 5+ 1, none⟩) (by simp only; omega) (.int .i64 s12)
                  have hql3 : q < l3.length := by omega
                  replace hlen3 := hide hlen3
                  obtain ⟨w32, hwn⟩ : ∃ x, x = (w29).setCell ⟨g, q * 5+ 1, none⟩ (.int .i64 s12) := ⟨_, rfl⟩
                  rw [← hwn] at hown3 hoB3 ⊢
                  clear hwn
                  refine tree_n rfl rfl _ rfl _ rfl ?_
                  try go_simp
                  refine tree_p rfl rfl rfl rfl _ rfl (by simp) (fun K hK => ?_)
                  apply Exists.intro
                  refine ⟨fun wq K' hK' => ?_, ?_⟩
                  · go_wp2_with fail
                    exact hK'
                  go_simp
                  refine hK _ ?_
                  clear hK K
                  refine tree_e0 (by kernel_rfl) rfl rfl (fun K hK => ?_)
                  have f2 := hown3.frozen (q * 5 + 2)
                  obtain ⟨cq, rfl, hc⟩ := hown3.cell_at (by decide) hql3
                  have c2 : w32.cell? ⟨g, q * 5 + 2, none⟩ = some (.string l3[q].pr) := hc 2 _ rfl
                  clear hc
                  go_wp2_with fail
                  try go_simp
                  refine hK _ _ trivial ?_
                  clear hK K
                  obtain ⟨l4, hown4, hlen4⟩ : ∃ x : List Ev, Own ((w32).setCell ⟨g, q * 5+ 2, none⟩ (.string s19)) w1.heap.size 60 (some ⟨g, 0, none⟩) c' x ∧ x.length = l.length := ⟨_, Own.set_ev2 hown3 hql3 s19, by rw [List.length_set]; exact hlen3.out⟩
                  have hoB4 := hoB3.set hbw (p := ⟨g, q * 5+ 2, none⟩) (by simp only; omega) (.string s19)
                  have hql4 : q < l4.length := by omega
                  replace hlen4 := hide hlen4
                  obtain ⟨w35, hwn⟩ : ∃ x, x = (w32).setCell ⟨g, q * 5+ 2, none⟩ (.string s19) := ⟨_, rfl⟩
                  rw [← hwn] at hown4 hoB4 ⊢
                  clear hwn
                  refine tree_n rfl rfl _ rfl _ rfl ?_
                  try go_simp
                  refine tree_p rfl rfl rfl rfl _ rfl (by simp) (fun K hK => ?_)
                  apply Exists.intro
                  refine ⟨fun wq K' hK' => ?_, ?_⟩
                  · go_wp2_with fail
                    exact hK'
                  go_simp
                  refine hK _ ?_
                  clear hK K
                  refine tree_e0 (by kernel_rfl) rfl rfl (fun K hK => ?_)
                  have f3 := hown4.frozen (q * 5 + 3)
                  obtain ⟨cq, rfl, hc⟩ := hown4.cell_at (by decide) hql4
                  have c3 : w35.cell? ⟨g, q * 5 + 3, none⟩ = some (.string l4[q].job) := hc 3 _ rfl
                  clear hc
                  go_wp2_with fail
                  try go_simp
                  refine hK _ _ trivial ?_
                  clear hK K
                  refine tree_done ?_
                  obtain ⟨l5, hown5, hlen5⟩ : ∃ x : List Ev, Own ((w35).setCell ⟨g, q * 5+ 3, none⟩ (.string s26)) w1.heap.size 60 (some ⟨g, 0, none⟩) c' x ∧ x.length = l.length := ⟨_, Own.set_ev3 hown4 hql4 s26, by rw [List.length_set]; exact hlen4.out⟩
                  have hoB5 := hoB4.set hbw (p := ⟨g, q * 5+ 3, none⟩) (by simp only; omega) (.string s26)
                  have hql5 : q < l5.length := by omega
                  replace hlen5 := hide hlen5
                  obtain ⟨w38, hwn⟩ : ∃ x, x = (w35).setCell ⟨g, q * 5+ 3, none⟩ (.string s26) := ⟨_, rfl⟩
                  rw [← hwn] at hown5 hoB5 ⊢
                  clear hwn
                  rw [← hlen5.out]
                  have hl5 : l5.length ≤ 16 := by have := hlen5.out; omega
                  clear hlen5 hlen4 hlen3 hlen2 hown hown2 hown3 hown4 hoB hoB2 hoB3 hoB4
                  go_wp2_with fail
                  go_ret
                  exact ⟨l5, _, _, rfl, hown5.sl.mono (by omega), hl5, hown5.cap, hoB5.mono (by omega)⟩
              · refine tree_alt ?_ ?_
                · refine tree_e rfl rfl (fun K hK => ?_)
                  go_wp2_with fail
                  try go_simp
                  refine hK _ _ ((hown.pure (gr_alloc (World.grownBy.refl _ _) _))) ?_
                  clear hK K
                  obtain ⟨w18, hw18⟩ : ∃ x, x = (w10).alloc (.cells [.string l[q].pr, .string ⟨#[122, 122]⟩, .string ⟨#[]⟩].toArray 9) := ⟨_, rfl⟩
                  have hg18 : (w10).grownBy w18 none := by rw [hw18]; exact gr_alloc (World.grownBy.refl _ _) _
                  have hb18 : Box w18 (w10).heap.size 9 [.string l[q].pr, .string ⟨#[122, 122]⟩, .string ⟨#[]⟩] := by rw [hw18]; exact Box.new _ _ _
                  rw [← hw18]
                  clear hw18
                  obtain ⟨x18, hx18⟩ : ∃ x, x = (w10).heap.size := ⟨_, rfl⟩
                  rw [← hx18] at hb18 ⊢
                  have hxl18 : (w10).heap.size ≤ x18 := by omega
                  clear hx18
                  have hbx18 : b < x18 := by have := hoB.lt; omega
                  replace hoB := hoB.pure hg18
                  replace hown := hown.pure hg18
                  refine tree_alt ?_ ?_
                  · refine tree_e rfl rfl (fun K hK => ?_)
                    go_wp2_with fail
                    refine (odd_any b _ _ _ w18 hoB.2 (by omega) (by omega) (by omega) (by omega)).mono ?_
                    rintro e w12 ⟨s12, rfl, _, ho12⟩
                    go_wp2_with fail
                    try go_simp
                    refine hK _ _ ((hown.s ho12 hb1)) ?_
                    clear hK K
                    replace hoB := hoB.trans ho12
                    replace hown := hown.s ho12 hb1
                    replace hb18 := hb18.gr ho12.1 (fun e => by injection e; omega)
                    refine tree_alt ?_ ?_
                    · refine tree_e rfl rfl (fun K hK => ?_)
                      go_wp2_with fail
                      refine (some_any b _ _ _ _ [l[q].pr, ⟨#[122, 122]⟩, ⟨#[]⟩] w12 hoB.2 (by omega) (hb18.sl (row_strs _ _ _) (by omega) (by simp [maxLen])) rfl (by simp)).mono ?_
                      rintro e w19 ⟨s19, rfl, ho19⟩
                      go_wp2_with fail
                      try go_simp
                      refine hK _ _ ((hown.s ho19 hb1)) ?_
                      clear hK K
                      replace hoB := hoB.trans ho19
                      replace hown := hown.s ho19 hb1
                      refine tree_e rfl rfl (fun K hK => ?_)
                      go_wp2_with fail
                      try go_simp
                      refine hK _ _ ((hown.pure (gr_alloc (World.grownBy.refl _ _) _))) ?_
                      clear hK K
                      obtain ⟨w25, hw25⟩ : ∃ x, x = (w19).alloc (.cells [.string l[q].job, .string ⟨#[74]⟩, .string ⟨#[106, 49]⟩].toArray 9) := ⟨_, rfl⟩
                      have hg25 : (w19).grownBy w25 none := by rw [hw25]; exact gr_alloc (World.grownBy.refl _ _) _
                      have hb25 : Box w25 (w19).heap.size 9 [.string l[q].job, .string ⟨#[74]⟩, .string ⟨#[106, 49]⟩] := by rw [hw25]; exact Box.new _ _ _
                      rw [← hw25]
                      clear hw25
                      obtain ⟨x25, hx25⟩ : ∃ x, x = (w19).heap.size := ⟨_, rfl⟩
                      rw [← hx25] at hb25 ⊢
                      have hxl25 : (w19).heap.size ≤ x25 := by omega
                      clear hx25
                      have hbx25 : b < x25 := by have := hoB.lt; omega
                      replace hoB := hoB.pure hg25
                      replace hown := hown.pure hg25
                      refine tree_e0 (by kernel_rfl) rfl rfl (fun K hK => ?_)
                      go_wp2_with fail
                      refine (some_any b _ _ _ _ [l[q].job, ⟨#[74]⟩, ⟨#[106, 49]⟩] w25 hoB.2 (by omega) (hb25.sl (row_strs _ _ _) (by omega) (by simp [maxLen])) rfl (by simp)).mono ?_
                      rintro e w26 ⟨s26, rfl, ho26⟩
                      go_wp2_with fail
                      try go_simp
                      refine hK _ _ trivial ?_
                      clear hK K
                      replace hoB := hoB.trans ho26
                      replace hown := hown.s ho26 hb1
                      refine tree_n rfl rfl _ rfl _ rfl ?_
                      try go_simp
                      refine tree_p rfl rfl rfl rfl _ rfl (by simp) (fun K hK => ?_)
                      apply Exists.intro
                      refine ⟨fun wq K' hK' => ?_, ?_⟩
                      · go_wp2_with fail
                        exact hK'
                      go_simp
                      refine hK _ ?_
                      clear hK K
                      refine tree_e0 (by kernel_rfl) rfl rfl (fun K hK => ?_)
                      have f0 := hown.frozen (q * 5)
                      obtain ⟨cq, rfl, hc⟩ := hown.cell_at (by decide) hql
                      have c0 : w26.cell? ⟨g, q * 5, none⟩ = some (.int .i64 l[q].at_) := hc 0 _ rfl
                      clear hc
                      go_wp2_with fail
                      try go_simp
                      refine hK _ _ trivial ?_
                      clear hK K
                      obtain ⟨l2, hown2, hlen2⟩ : ∃ x : List Ev, Own ((w26).setCell ⟨g, q * 5, none⟩ (.int .i64 s10)) w1.heap.size 60 (some ⟨g, 0, none⟩) c' x ∧ x.length = l.length := ⟨_, Own.set_ev0 hown hql s10, by rw [List.length_set]; skip⟩
                      have hoB2 := hoB.set hbw (p := ⟨g, q * 5, none⟩) (by simp only; omega) (.int .i64 s10)
                      have hql2 : q < l2.length := by omega
                      replace hlen2 := hide hlen2
                      obtain ⟨w29, hwn⟩ : ∃ x, x = (w26).setCell ⟨g, q * 5, none⟩ (.int .i64 s10) := ⟨_, rfl⟩
                      rw [← hwn] at hown2 hoB2 ⊢
                      clear hwn
                      refine tree_n rfl rfl _ rfl _ rfl ?_
                      try go_simp
                      refine tree_p rfl rfl rfl rfl _ rfl (by simp) (fun K hK => ?_)
                      apply Exists.intro
                      refine ⟨fun wq K' hK' => ?_, ?_⟩
                      · go_wp2_with fail
                        exact hK'
                      go_simp
                      refine hK _ ?_
                      clear hK K
                      refine tree_e0 (by kernel_rfl) rfl rfl (fun K hK => ?_)
                      have f1 := hown2.frozen (q * 5 + 1)
                      obtain ⟨cq, rfl, hc⟩ := hown2.cell_at (by decide) hql2
                      have c1 : w29.cell? ⟨g, q * 5 + 1, none⟩ = some (.int .i64 l2[q].kind) := hc 1 _ rfl
                      clear hc
                      go_wp2_with fail
                      try go_simp
                      refine hK _ _ trivial ?_
                      clear hK K
                      obtain ⟨l3, hown3, hlen3⟩ : ∃ x : List Ev, Own ((w29).setCell ⟨g, q * 5+ 1, none⟩ (.int .i64 s12)) w1.heap.size 60 (some ⟨g, 0, none⟩) c' x ∧ x.length = l.length := ⟨_, Own.set_ev1 hown2 hql2 s12, by rw [List.length_set]; exact hlen2.out⟩
                      have hoB3 := hoB2.set hbw (p := ⟨g, q * 5+ 1, none⟩) (by simp only; omega) (.int .i64 s12)
                      have hql3 : q < l3.length := by omega
                      replace hlen3 := hide hlen3
                      obtain ⟨w32, hwn⟩ : ∃ x, x = (w29).setCell ⟨g, q * 5+ 1, none⟩ (.int .i64 s12) := ⟨_, rfl⟩
                      rw [← hwn] at hown3 hoB3 ⊢
                      clear hwn
                      refine tree_n rfl rfl _ rfl _ rfl ?_
                      try go_simp
                      refine tree_p rfl rfl rfl rfl _ rfl (by simp) (fun K hK => ?_)
                      apply Exists.intro
                      refine ⟨fun wq K' hK' => ?_, ?_⟩
                      · go_wp2_with fail
                        exact hK'
                      go_simp
                      refine hK _ ?_
                      clear hK K
                      refine tree_e0 (by kernel_rfl) rfl rfl (fun K hK => ?_)
                      have f2 := hown3.frozen (q * 5 + 2)
                      obtain ⟨cq, rfl, hc⟩ := hown3.cell_at (by decide) hql3
                      have c2 : w32.cell? ⟨g, q * 5 + 2, none⟩ = some (.string l3[q].pr) := hc 2 _ rfl
                      clear hc
                      go_wp2_with fail
                      try go_simp
                      refine hK _ _ trivial ?_
                      clear hK K
                      obtain ⟨l4, hown4, hlen4⟩ : ∃ x : List Ev, Own ((w32).setCell ⟨g, q * 5+ 2, none⟩ (.string s19)) w1.heap.size 60 (some ⟨g, 0, none⟩) c' x ∧ x.length = l.length := ⟨_, Own.set_ev2 hown3 hql3 s19, by rw [List.length_set]; exact hlen3.out⟩
                      have hoB4 := hoB3.set hbw (p := ⟨g, q * 5+ 2, none⟩) (by simp only; omega) (.string s19)
                      have hql4 : q < l4.length := by omega
                      replace hlen4 := hide hlen4
                      obtain ⟨w35, hwn⟩ : ∃ x, x = (w32).setCell ⟨g, q * 5+ 2, none⟩ (.string s19) := ⟨_, rfl⟩
                      rw [← hwn] at hown4 hoB4 ⊢
                      clear hwn
                      refine tree_n rfl rfl _ rfl _ rfl ?_
                      try go_simp
                      refine tree_p rfl rfl rfl rfl _ rfl (by simp) (fun K hK => ?_)
                      apply Exists.intro
                      refine ⟨fun wq K' hK' => ?_, ?_⟩
                      · go_wp2_with fail
                        exact hK'
                      go_simp
                      refine hK _ ?_
                      clear hK K
                      refine tree_e0 (by kernel_rfl) rfl rfl (fun K hK => ?_)
                      have f3 := hown4.frozen (q * 5 + 3)
                      obtain ⟨cq, rfl, hc⟩ := hown4.cell_at (by decide) hql4
                      have c3 : w35.cell? ⟨g, q * 5 + 3, none⟩ = some (.string l4[q].job) := hc 3 _ rfl
                      clear hc
                      go_wp2_with fail
                      try go_simp
                      refine hK _ _ trivial ?_
                      clear hK K
                      refine tree_done ?_
                      obtain ⟨l5, hown5, hlen5⟩ : ∃ x : List Ev, Own ((w35).setCell ⟨g, q * 5+ 3, none⟩ (.string s26)) w1.heap.size 60 (some ⟨g, 0, none⟩) c' x ∧ x.length = l.length := ⟨_, Own.set_ev3 hown4 hql4 s26, by rw [List.length_set]; exact hlen4.out⟩
                      have hoB5 := hoB4.set hbw (p := ⟨g, q * 5+ 3, none⟩) (by simp only; omega) (.string s26)
                      have hql5 : q < l5.length := by omega
                      replace hlen5 := hide hlen5
                      obtain ⟨w38, hwn⟩ : ∃ x, x = (w35).setCell ⟨g, q * 5+ 3, none⟩ (.string s26) := ⟨_, rfl⟩
                      rw [← hwn] at hown5 hoB5 ⊢
                      clear hwn
                      rw [← hlen5.out]
                      have hl5 : l5.length ≤ 16 := by have := hlen5.out; omega
                      clear hlen5 hlen4 hlen3 hlen2 hown hown2 hown3 hown4 hoB hoB2 hoB3 hoB4
                      go_wp2_with fail
                      go_ret
                      exact ⟨l5, _, _, rfl, hown5.sl.mono (by omega), hl5, hown5.cap, hoB5.mono (by omega)⟩
                    · refine tree_e rfl rfl (fun K hK => ?_)
                      go_wp2_with fail
                      try go_simp
                      refine hK _ _ ((hown.pure (gr_alloc (World.grownBy.refl _ _) _))) ?_
                      clear hK K
                      obtain ⟨w25, hw25⟩ : ∃ x, x = (w12).alloc (.cells [.string l[q].job, .string ⟨#[74]⟩, .string ⟨#[106, 49]⟩].toArray 9) := ⟨_, rfl⟩
                      have hg25 : (w12).grownBy w25 none := by rw [hw25]; exact gr_alloc (World.grownBy.refl _ _) _
                      have hb25 : Box w25 (w12).heap.size 9 [.string l[q].job, .string ⟨#[74]⟩, .string ⟨#[106, 49]⟩] := by rw [hw25]; exact Box.new _ _ _
                      rw [← hw25]
                      clear hw25
                      obtain ⟨x25, hx25⟩ : ∃ x, x = (w12).heap.size := ⟨_, rfl⟩
                      rw [← hx25] at hb25 ⊢
                      have hxl25 : (w12).heap.size ≤ x25 := by omega
                      clear hx25
                      have hbx25 : b < x25 := by have := hoB.lt; omega
                      replace hoB := hoB.pure hg25
                      replace hown := hown.pure hg25
                      replace hb18 := hb18.pure hg25
                      refine tree_e rfl rfl (fun K hK => ?_)
                      go_wp2_with fail
                      refine (some_any b _ _ _ _ [l[q].pr, ⟨#[122, 122]⟩, ⟨#[]⟩] w25 hoB.2 (by omega) (hb18.sl (row_strs _ _ _) (by omega) (by simp [maxLen])) rfl (by simp)).mono ?_
                      rintro e w19 ⟨s19, rfl, ho19⟩
                      go_wp2_with fail
                      try go_simp
                      refine hK _ _ ((hown.s ho19 hb1)) ?_
                      clear hK K
                      replace hoB := hoB.trans ho19
                      replace hown := hown.s ho19 hb1
                      replace hb25 := hb25.gr ho19.1 (fun e => by injection e; omega)
                      refine tree_e0 (by kernel_rfl) rfl rfl (fun K hK => ?_)
                      go_wp2_with fail
                      refine (some_any b _ _ _ _ [l[q].job, ⟨#[74]⟩, ⟨#[106, 49]⟩] w19 hoB.2 (by omega) (hb25.sl (row_strs _ _ _) (by omega) (by simp [maxLen])) rfl (by simp)).mono ?_
                      rintro e w26 ⟨s26, rfl, ho26⟩
                      go_wp2_with fail
                      try go_simp
                      refine hK _ _ trivial ?_
                      clear hK K
                      replace hoB := hoB.trans ho26
                      replace hown := hown.s ho26 hb1
                      refine tree_n rfl rfl _ rfl _ rfl ?_
                      try go_simp
                      refine tree_p rfl rfl rfl rfl _ rfl (by simp) (fun K hK => ?_)
                      apply Exists.intro
                      refine ⟨fun wq K' hK' => ?_, ?_⟩
                      · go_wp2_with fail
                        exact hK'
                      go_simp
                      refine hK _ ?_
                      clear hK K
                      refine tree_e0 (by kernel_rfl) rfl rfl (fun K hK => ?_)
                      have f0 := hown.frozen (q * 5)
                      obtain ⟨cq, rfl, hc⟩ := hown.cell_at (by decide) hql
                      have c0 : w26.cell? ⟨g, q * 5, none⟩ = some (.int .i64 l[q].at_) := hc 0 _ rfl
                      clear hc
                      go_wp2_with fail
                      try go_simp
                      refine hK _ _ trivial ?_
                      clear hK K
                      obtain ⟨l2, hown2, hlen2⟩ : ∃ x : List Ev, Own ((w26).setCell ⟨g, q * 5, none⟩ (.int .i64 s10)) w1.heap.size 60 (some ⟨g, 0, none⟩) c' x ∧ x.length = l.length := ⟨_, Own.set_ev0 hown hql s10, by rw [List.length_set]; skip⟩
                      have hoB2 := hoB.set hbw (p := ⟨g, q * 5, none⟩) (by simp only; omega) (.int .i64 s10)
                      have hql2 : q < l2.length := by omega
                      replace hlen2 := hide hlen2
                      obtain ⟨w29, hwn⟩ : ∃ x, x = (w26).setCell ⟨g, q * 5, none⟩ (.int .i64 s10) := ⟨_, rfl⟩
                      rw [← hwn] at hown2 hoB2 ⊢
                      clear hwn
                      refine tree_n rfl rfl _ rfl _ rfl ?_
                      try go_simp
                      refine tree_p rfl rfl rfl rfl _ rfl (by simp) (fun K hK => ?_)
                      apply Exists.intro
                      refine ⟨fun wq K' hK' => ?_, ?_⟩
                      · go_wp2_with fail
                        exact hK'
                      go_simp
                      refine hK _ ?_
                      clear hK K
                      refine tree_e0 (by kernel_rfl) rfl rfl (fun K hK => ?_)
                      have f1 := hown2.frozen (q * 5 + 1)
                      obtain ⟨cq, rfl, hc⟩ := hown2.cell_at (by decide) hql2
                      have c1 : w29.cell? ⟨g, q * 5 + 1, none⟩ = some (.int .i64 l2[q].kind) := hc 1 _ rfl
                      clear hc
                      go_wp2_with fail
                      try go_simp
                      refine hK _ _ trivial ?_
                      clear hK K
                      obtain ⟨l3, hown3, hlen3⟩ : ∃ x : List Ev, Own ((w29).setCell ⟨g, q * 5+ 1, none⟩ (.int .i64 s12)) w1.heap.size 60 (some ⟨g, 0, none⟩) c' x ∧ x.length = l.length := ⟨_, Own.set_ev1 hown2 hql2 s12, by rw [List.length_set]; exact hlen2.out⟩
                      have hoB3 := hoB2.set hbw (p := ⟨g, q * 5+ 1, none⟩) (by simp only; omega) (.int .i64 s12)
                      have hql3 : q < l3.length := by omega
                      replace hlen3 := hide hlen3
                      obtain ⟨w32, hwn⟩ : ∃ x, x = (w29).setCell ⟨g, q * 5+ 1, none⟩ (.int .i64 s12) := ⟨_, rfl⟩
                      rw [← hwn] at hown3 hoB3 ⊢
                      clear hwn
                      refine tree_n rfl rfl _ rfl _ rfl ?_
                      try go_simp
                      refine tree_p rfl rfl rfl rfl _ rfl (by simp) (fun K hK => ?_)
                      apply Exists.intro
                      refine ⟨fun wq K' hK' => ?_, ?_⟩
                      · go_wp2_with fail
                        exact hK'
                      go_simp
                      refine hK _ ?_
                      clear hK K
                      refine tree_e0 (by kernel_rfl) rfl rfl (fun K hK => ?_)
                      have f2 := hown3.frozen (q * 5 + 2)
                      obtain ⟨cq, rfl, hc⟩ := hown3.cell_at (by decide) hql3
                      have c2 : w32.cell? ⟨g, q * 5 + 2, none⟩ = some (.string l3[q].pr) := hc 2 _ rfl
                      clear hc
                      go_wp2_with fail
                      try go_simp
                      refine hK _ _ trivial ?_
                      clear hK K
                      obtain ⟨l4, hown4, hlen4⟩ : ∃ x : List Ev, Own ((w32).setCell ⟨g, q * 5+ 2, none⟩ (.string s19)) w1.heap.size 60 (some ⟨g, 0, none⟩) c' x ∧ x.length = l.length := ⟨_, Own.set_ev2 hown3 hql3 s19, by rw [List.length_set]; exact hlen3.out⟩
                      have hoB4 := hoB3.set hbw (p := ⟨g, q * 5+ 2, none⟩) (by simp only; omega) (.string s19)
                      have hql4 : q < l4.length := by omega
                      replace hlen4 := hide hlen4
                      obtain ⟨w35, hwn⟩ : ∃ x, x = (w32).setCell ⟨g, q * 5+ 2, none⟩ (.string s19) := ⟨_, rfl⟩
                      rw [← hwn] at hown4 hoB4 ⊢
                      clear hwn
                      refine tree_n rfl rfl _ rfl _ rfl ?_
                      try go_simp
                      refine tree_p rfl rfl rfl rfl _ rfl (by simp) (fun K hK => ?_)
                      apply Exists.intro
                      refine ⟨fun wq K' hK' => ?_, ?_⟩
                      · go_wp2_with fail
                        exact hK'
                      go_simp
                      refine hK _ ?_
                      clear hK K
                      refine tree_e0 (by kernel_rfl) rfl rfl (fun K hK => ?_)
                      have f3 := hown4.frozen (q * 5 + 3)
                      obtain ⟨cq, rfl, hc⟩ := hown4.cell_at (by decide) hql4
                      have c3 : w35.cell? ⟨g, q * 5 + 3, none⟩ = some (.string l4[q].job) := hc 3 _ rfl
                      clear hc
                      go_wp2_with fail
                      try go_simp
                      refine hK _ _ trivial ?_
                      clear hK K
                      refine tree_done ?_
                      obtain ⟨l5, hown5, hlen5⟩ : ∃ x : List Ev, Own ((w35).setCell ⟨g, q * 5+ 3, none⟩ (.string s26)) w1.heap.size 60 (some ⟨g, 0, none⟩) c' x ∧ x.length = l.length := ⟨_, Own.set_ev3 hown4 hql4 s26, by rw [List.length_set]; exact hlen4.out⟩
                      have hoB5 := hoB4.set hbw (p := ⟨g, q * 5+ 3, none⟩) (by simp only; omega) (.string s26)
                      have hql5 : q < l5.length := by omega
                      replace hlen5 := hide hlen5
                      obtain ⟨w38, hwn⟩ : ∃ x, x = (w35).setCell ⟨g, q * 5+ 3, none⟩ (.string s26) := ⟨_, rfl⟩
                      rw [← hwn] at hown5 hoB5 ⊢
                      clear hwn
                      rw [← hlen5.out]
                      have hl5 : l5.length ≤ 16 := by have := hlen5.out; omega
                      clear hlen5 hlen4 hlen3 hlen2 hown hown2 hown3 hown4 hoB hoB2 hoB3 hoB4
                      go_wp2_with fail
                      go_ret
                      exact ⟨l5, _, _, rfl, hown5.sl.mono (by omega), hl5, hown5.cap, hoB5.mono (by omega)⟩
                  · refine tree_e rfl rfl (fun K hK => ?_)
                    go_wp2_with fail
                    try go_simp
                    refine hK _ _ ((hown.pure (gr_alloc (World.grownBy.refl _ _) _))) ?_
                    clear hK K
                    obtain ⟨w25, hw25⟩ : ∃ x, x = (w18).alloc (.cells [.string l[q].job, .string ⟨#[74]⟩, .string ⟨#[106, 49]⟩].toArray 9) := ⟨_, rfl⟩
                    have hg25 : (w18).grownBy w25 none := by rw [hw25]; exact gr_alloc (World.grownBy.refl _ _) _
                    have hb25 : Box w25 (w18).heap.size 9 [.string l[q].job, .string ⟨#[74]⟩, .string ⟨#[106, 49]⟩] := by rw [hw25]; exact Box.new _ _ _
                    rw [← hw25]
                    clear hw25
                    obtain ⟨x25, hx25⟩ : ∃ x, x = (w18).heap.size := ⟨_, rfl⟩
                    rw [← hx25] at hb25 ⊢
                    have hxl25 : (w18).heap.size ≤ x25 := by omega
                    clear hx25
                    have hbx25 : b < x25 := by have := hoB.lt; omega
                    replace hoB := hoB.pure hg25
                    replace hown := hown.pure hg25
                    replace hb18 := hb18.pure hg25
                    refine tree_e rfl rfl (fun K hK => ?_)
                    go_wp2_with fail
                    refine (odd_any b _ _ _ w25 hoB.2 (by omega) (by omega) (by omega) (by omega)).mono ?_
                    rintro e w12 ⟨s12, rfl, _, ho12⟩
                    go_wp2_with fail
                    try go_simp
                    refine hK _ _ ((hown.s ho12 hb1)) ?_
                    clear hK K
                    replace hoB := hoB.trans ho12
                    replace hown := hown.s ho12 hb1
                    replace hb18 := hb18.gr ho12.1 (fun e => by injection e; omega)
                    replace hb25 := hb25.gr ho12.1 (fun e => by injection e; omega)
                    refine tree_e rfl rfl (fun K hK => ?_)
                    go_wp2_with fail
                    refine (some_any b _ _ _ _ [l[q].pr, ⟨#[122, 122]⟩, ⟨#[]⟩] w12 hoB.2 (by omega) (hb18.sl (row_strs _ _ _) (by omega) (by simp [maxLen])) rfl (by simp)).mono ?_
                    rintro e w19 ⟨s19, rfl, ho19⟩
                    go_wp2_with fail
                    try go_simp
                    refine hK _ _ ((hown.s ho19 hb1)) ?_
                    clear hK K
                    replace hoB := hoB.trans ho19
                    replace hown := hown.s ho19 hb1
                    replace hb25 := hb25.gr ho19.1 (fun e => by injection e; omega)
                    refine tree_e0 (by kernel_rfl) rfl rfl (fun K hK => ?_)
                    go_wp2_with fail
                    refine (some_any b _ _ _ _ [l[q].job, ⟨#[74]⟩, ⟨#[106, 49]⟩] w19 hoB.2 (by omega) (hb25.sl (row_strs _ _ _) (by omega) (by simp [maxLen])) rfl (by simp)).mono ?_
                    rintro e w26 ⟨s26, rfl, ho26⟩
                    go_wp2_with fail
                    try go_simp
                    refine hK _ _ trivial ?_
                    clear hK K
                    replace hoB := hoB.trans ho26
                    replace hown := hown.s ho26 hb1
                    refine tree_n rfl rfl _ rfl _ rfl ?_
                    try go_simp
                    refine tree_p rfl rfl rfl rfl _ rfl (by simp) (fun K hK => ?_)
                    apply Exists.intro
                    refine ⟨fun wq K' hK' => ?_, ?_⟩
                    · go_wp2_with fail
                      exact hK'
                    go_simp
                    refine hK _ ?_
                    clear hK K
                    refine tree_e0 (by kernel_rfl) rfl rfl (fun K hK => ?_)
                    have f0 := hown.frozen (q * 5)
                    obtain ⟨cq, rfl, hc⟩ := hown.cell_at (by decide) hql
                    have c0 : w26.cell? ⟨g, q * 5, none⟩ = some (.int .i64 l[q].at_) := hc 0 _ rfl
                    clear hc
                    go_wp2_with fail
                    try go_simp
                    refine hK _ _ trivial ?_
                    clear hK K
                    obtain ⟨l2, hown2, hlen2⟩ : ∃ x : List Ev, Own ((w26).setCell ⟨g, q * 5, none⟩ (.int .i64 s10)) w1.heap.size 60 (some ⟨g, 0, none⟩) c' x ∧ x.length = l.length := ⟨_, Own.set_ev0 hown hql s10, by rw [List.length_set]; skip⟩
                    have hoB2 := hoB.set hbw (p := ⟨g, q * 5, none⟩) (by simp only; omega) (.int .i64 s10)
                    have hql2 : q < l2.length := by omega
                    replace hlen2 := hide hlen2
                    obtain ⟨w29, hwn⟩ : ∃ x, x = (w26).setCell ⟨g, q * 5, none⟩ (.int .i64 s10) := ⟨_, rfl⟩
                    rw [← hwn] at hown2 hoB2 ⊢
                    clear hwn
                    refine tree_n rfl rfl _ rfl _ rfl ?_
                    try go_simp
                    refine tree_p rfl rfl rfl rfl _ rfl (by simp) (fun K hK => ?_)
                    apply Exists.intro
                    refine ⟨fun wq K' hK' => ?_, ?_⟩
                    · go_wp2_with fail
                      exact hK'
                    go_simp
                    refine hK _ ?_
                    clear hK K
                    refine tree_e0 (by kernel_rfl) rfl rfl (fun K hK => ?_)
                    have f1 := hown2.frozen (q * 5 + 1)
                    obtain ⟨cq, rfl, hc⟩ := hown2.cell_at (by decide) hql2
                    have c1 : w29.cell? ⟨g, q * 5 + 1, none⟩ = some (.int .i64 l2[q].kind) := hc 1 _ rfl
                    clear hc
                    go_wp2_with fail
                    try go_simp
                    refine hK _ _ trivial ?_
                    clear hK K
                    obtain ⟨l3, hown3, hlen3⟩ : ∃ x : List Ev, Own ((w29).setCell ⟨g, q * 5+ 1, none⟩ (.int .i64 s12)) w1.heap.size 60 (some ⟨g, 0, none⟩) c' x ∧ x.length = l.length := ⟨_, Own.set_ev1 hown2 hql2 s12, by rw [List.length_set]; exact hlen2.out⟩
                    have hoB3 := hoB2.set hbw (p := ⟨g, q * 5+ 1, none⟩) (by simp only; omega) (.int .i64 s12)
                    have hql3 : q < l3.length := by omega
                    replace hlen3 := hide hlen3
                    obtain ⟨w32, hwn⟩ : ∃ x, x = (w29).setCell ⟨g, q * 5+ 1, none⟩ (.int .i64 s12) := ⟨_, rfl⟩
                    rw [← hwn] at hown3 hoB3 ⊢
                    clear hwn
                    refine tree_n rfl rfl _ rfl _ rfl ?_
                    try go_simp
                    refine tree_p rfl rfl rfl rfl _ rfl (by simp) (fun K hK => ?_)
                    apply Exists.intro
                    refine ⟨fun wq K' hK' => ?_, ?_⟩
                    · go_wp2_with fail
                      exact hK'
                    go_simp
                    refine hK _ ?_
                    clear hK K
                    refine tree_e0 (by kernel_rfl) rfl rfl (fun K hK => ?_)
                    have f2 := hown3.frozen (q * 5 + 2)
                    obtain ⟨cq, rfl, hc⟩ := hown3.cell_at (by decide) hql3
                    have c2 : w32.cell? ⟨g, q * 5 + 2, none⟩ = some (.string l3[q].pr) := hc 2 _ rfl
                    clear hc
                    go_wp2_with fail
                    try go_simp
                    refine hK _ _ trivial ?_
                    clear hK K
                    obtain ⟨l4, hown4, hlen4⟩ : ∃ x : List Ev, Own ((w32).setCell ⟨g, q * 5+ 2, none⟩ (.string s19)) w1.heap.size 60 (some ⟨g, 0, none⟩) c' x ∧ x.length = l.length := ⟨_, Own.set_ev2 hown3 hql3 s19, by rw [List.length_set]; exact hlen3.out⟩
                    have hoB4 := hoB3.set hbw (p := ⟨g, q * 5+ 2, none⟩) (by simp only; omega) (.string s19)
                    have hql4 : q < l4.length := by omega
                    replace hlen4 := hide hlen4
                    obtain ⟨w35, hwn⟩ : ∃ x, x = (w32).setCell ⟨g, q * 5+ 2, none⟩ (.string s19) := ⟨_, rfl⟩
                    rw [← hwn] at hown4 hoB4 ⊢
                    clear hwn
                    refine tree_n rfl rfl _ rfl _ rfl ?_
                    try go_simp
                    refine tree_p rfl rfl rfl rfl _ rfl (by simp) (fun K hK => ?_)
                    apply Exists.intro
                    refine ⟨fun wq K' hK' => ?_, ?_⟩
                    · go_wp2_with fail
                      exact hK'
                    go_simp
                    refine hK _ ?_
                    clear hK K
                    refine tree_e0 (by kernel_rfl) rfl rfl (fun K hK => ?_)
                    have f3 := hown4.frozen (q * 5 + 3)
                    obtain ⟨cq, rfl, hc⟩ := hown4.cell_at (by decide) hql4
                    have c3 : w35.cell? ⟨g, q * 5 + 3, none⟩ = some (.string l4[q].job) := hc 3 _ rfl
                    clear hc
                    go_wp2_with fail
                    try go_simp
                    refine hK _ _ trivial ?_
                    clear hK K
                    refine tree_done ?_
                    obtain ⟨l5, hown5, hlen5⟩ : ∃ x : List Ev, Own ((w35).setCell ⟨g, q * 5+ 3, none⟩ (.string s26)) w1.heap.size 60 (some ⟨g, 0, none⟩) c' x ∧ x.length = l.length := ⟨_, Own.set_ev3 hown4 hql4 s26, by rw [List.length_set]; exact hlen4.out⟩
                    have hoB5 := hoB4.set hbw (p := ⟨g, q * 5+ 3, none⟩) (by simp only; omega) (.string s26)
                    have hql5 : q < l5.length := by omega
                    replace hlen5 := hide hlen5
                    obtain ⟨w38, hwn⟩ : ∃ x, x = (w35).setCell ⟨g, q * 5+ 3, none⟩ (.string s26) := ⟨_, rfl⟩
                    rw [← hwn] at hown5 hoB5 ⊢
                    clear hwn
                    rw [← hlen5.out]
                    have hl5 : l5.length ≤ 16 := by have := hlen5.out; omega
                    clear hlen5 hlen4 hlen3 hlen2 hown hown2 hown3 hown4 hoB hoB2 hoB3 hoB4
                    go_wp2_with fail
                    go_ret
                    exact ⟨l5, _, _, rfl, hown5.sl.mono (by omega), hl5, hown5.cap, hoB5.mono (by omega)⟩
                · refine tree_e rfl rfl (fun K hK => ?_)
                  go_wp2_with fail
                  try go_simp
                  refine hK _ _ ((hown.pure (gr_alloc (World.grownBy.refl _ _) _))) ?_
                  clear hK K
                  obtain ⟨w25, hw25⟩ : ∃ x, x = (w10).alloc (.cells [.string l[q].job, .string ⟨#[74]⟩, .string ⟨#[106, 49]⟩].toArray 9) := ⟨_, rfl⟩
                  have hg25 : (w10).grownBy w25 none := by rw [hw25]; exact gr_alloc (World.grownBy.refl _ _) _
                  have hb25 : Box w25 (w10).heap.size 9 [.string l[q].job, .string ⟨#[74]⟩, .string ⟨#[106, 49]⟩] := by rw [hw25]; exact Box.new _ _ _
                  rw [← hw25]
                  clear hw25
                  obtain ⟨x25, hx25⟩ : ∃ x, x = (w10).heap.size := ⟨_, rfl⟩
                  rw [← hx25] at hb25 ⊢
                  have hxl25 : (w10).heap.size ≤ x25 := by omega
                  clear hx25
                  have hbx25 : b < x25 := by have := hoB.lt; omega
                  replace hoB := hoB.pure hg25
                  replace hown := hown.pure hg25
                  refine tree_alt ?_ ?_
                  · refine tree_e rfl rfl (fun K hK => ?_)
                    go_wp2_with fail
                    refine (odd_any b _ _ _ w25 hoB.2 (by omega) (by omega) (by omega) (by omega)).mono ?_
                    rintro e w12 ⟨s12, rfl, _, ho12⟩
                    go_wp2_with fail
                    try go_simp
                    refine hK _ _ ((hown.s ho12 hb1)) ?_
                    clear hK K
                    replace hoB := hoB.trans ho12
                    replace hown := hown.s ho12 hb1
                    replace hb25 := hb25.gr ho12.1 (fun e => by injection e; omega)
                    refine tree_e rfl rfl (fun K hK => ?_)
                    go_wp2_with fail
                    try go_simp
                    refine hK _ _ ((hown.pure (gr_alloc (World.grownBy.refl _ _) _))) ?_
                    clear hK K
                    obtain ⟨w18, hw18⟩ : ∃ x, x = (w12).alloc (.cells [.string l[q].pr, .string ⟨#[122, 122]⟩, .string ⟨#[]⟩].toArray 9) := ⟨_, rfl⟩
                    have hg18 : (w12).grownBy w18 none := by rw [hw18]; exact gr_alloc (World.grownBy.refl _ _) _
                    have hb18 : Box w18 (w12).heap.size 9 [.string l[q].pr, .string ⟨#[122, 122]⟩, .string ⟨#[]⟩] := by rw [hw18]; exact Box.new _ _ _
                    rw [← hw18]
                    clear hw18
                    obtain ⟨x18, hx18⟩ : ∃ x, x = (w12).heap.size := ⟨_, rfl⟩
                    rw [← hx18] at hb18 ⊢
                    have hxl18 : (w12).heap.size ≤ x18 := by omega
                    clear hx18
                    have hbx18 : b < x18 := by have := hoB.lt; omega
                    replace hoB := hoB.pure hg18
                    replace hown := hown.pure hg18
                    replace hb25 := hb25.pure hg18
                    refine tree_e rfl rfl (fun K hK => ?_)
                    go_wp2_with fail
                    refine (some_any b _ _ _ _ [l[q].pr, ⟨#[122, 122]⟩, ⟨#[]⟩] w18 hoB.2 (by omega) (hb18.sl (row_strs _ _ _) (by omega) (by simp [maxLen])) rfl (by simp)).mono ?_
                    rintro e w19 ⟨s19, rfl, ho19⟩
                    go_wp2_with fail
                    try go_simp
                    refine hK _ _ ((hown.s ho19 hb1)) ?_
                    clear hK K
                    replace hoB := hoB.trans ho19
                    replace hown := hown.s ho19 hb1
                    replace hb25 := hb25.gr ho19.1 (fun e => by injection e; omega)
                    refine tree_e0 (by kernel_rfl) rfl rfl (fun K hK => ?_)
                    go_wp2_with fail
                    refine (some_any b _ _ _ _ [l[q].job, ⟨#[74]⟩, ⟨#[106, 49]⟩] w19 hoB.2 (by omega) (hb25.sl (row_strs _ _ _) (by omega) (by simp [maxLen])) rfl (by simp)).mono ?_
                    rintro e w26 ⟨s26, rfl, ho26⟩
                    go_wp2_with fail
                    try go_simp
                    refine hK _ _ trivial ?_
                    clear hK K
                    replace hoB := hoB.trans ho26
                    replace hown := hown.s ho26 hb1
                    refine tree_n rfl rfl _ rfl _ rfl ?_
                    try go_simp
                    refine tree_p rfl rfl rfl rfl _ rfl (by simp) (fun K hK => ?_)
                    apply Exists.intro
                    refine ⟨fun wq K' hK' => ?_, ?_⟩
                    · go_wp2_with fail
                      exact hK'
                    go_simp
                    refine hK _ ?_
                    clear hK K
                    refine tree_e0 (by kernel_rfl) rfl rfl (fun K hK => ?_)
                    have f0 := hown.frozen (q * 5)
                    obtain ⟨cq, rfl, hc⟩ := hown.cell_at (by decide) hql
                    have c0 : w26.cell? ⟨g, q * 5, none⟩ = some (.int .i64 l[q].at_) := hc 0 _ rfl
                    clear hc
                    go_wp2_with fail
                    try go_simp
                    refine hK _ _ trivial ?_
                    clear hK K
                    obtain ⟨l2, hown2, hlen2⟩ : ∃ x : List Ev, Own ((w26).setCell ⟨g, q * 5, none⟩ (.int .i64 s10)) w1.heap.size 60 (some ⟨g, 0, none⟩) c' x ∧ x.length = l.length := ⟨_, Own.set_ev0 hown hql s10, by rw [List.length_set]; skip⟩
                    have hoB2 := hoB.set hbw (p := ⟨g, q * 5, none⟩) (by simp only; omega) (.int .i64 s10)
                    have hql2 : q < l2.length := by omega
                    replace hlen2 := hide hlen2
                    obtain ⟨w29, hwn⟩ : ∃ x, x = (w26).setCell ⟨g, q * 5, none⟩ (.int .i64 s10) := ⟨_, rfl⟩
                    rw [← hwn] at hown2 hoB2 ⊢
                    clear hwn
                    refine tree_n rfl rfl _ rfl _ rfl ?_
                    try go_simp
                    refine tree_p rfl rfl rfl rfl _ rfl (by simp) (fun K hK => ?_)
                    apply Exists.intro
                    refine ⟨fun wq K' hK' => ?_, ?_⟩
                    · go_wp2_with fail
                      exact hK'
                    go_simp
                    refine hK _ ?_
                    clear hK K
                    refine tree_e0 (by kernel_rfl) rfl rfl (fun K hK => ?_)
                    have f1 := hown2.frozen (q * 5 + 1)
                    obtain ⟨cq, rfl, hc⟩ := hown2.cell_at (by decide) hql2
                    have c1 : w29.cell? ⟨g, q * 5 + 1, none⟩ = some (.int .i64 l2[q].kind) := hc 1 _ rfl
                    clear hc
                    go_wp2_with fail
                    try go_simp
                    refine hK _ _ trivial ?_
                    clear hK K
                    obtain ⟨l3, hown3, hlen3⟩ : ∃ x : List Ev, Own ((w29).setCell ⟨g, q * 5+ 1, none⟩ (.int .i64 s12)) w1.heap.size 60 (some ⟨g, 0, none⟩) c' x ∧ x.length = l.length := ⟨_, Own.set_ev1 hown2 hql2 s12, by rw [List.length_set]; exact hlen2.out⟩
                    have hoB3 := hoB2.set hbw (p := ⟨g, q * 5+ 1, none⟩) (by simp only; omega) (.int .i64 s12)
                    have hql3 : q < l3.length := by omega
                    replace hlen3 := hide hlen3
                    obtain ⟨w32, hwn⟩ : ∃ x, x = (w29).setCell ⟨g, q * 5+ 1, none⟩ (.int .i64 s12) := ⟨_, rfl⟩
                    rw [← hwn] at hown3 hoB3 ⊢
                    clear hwn
                    refine tree_n rfl rfl _ rfl _ rfl ?_
                    try go_simp
                    refine tree_p rfl rfl rfl rfl _ rfl (by simp) (fun K hK => ?_)
                    apply Exists.intro
                    refine ⟨fun wq K' hK' => ?_, ?_⟩
                    · go_wp2_with fail
                      exact hK'
                    go_simp
                    refine hK _ ?_
                    clear hK K
                    refine tree_e0 (by kernel_rfl) rfl rfl (fun K hK => ?_)
                    have f2 := hown3.frozen (q * 5 + 2)
                    obtain ⟨cq, rfl, hc⟩ := hown3.cell_at (by decide) hql3
                    have c2 : w32.cell? ⟨g, q * 5 + 2, none⟩ = some (.string l3[q].pr) := hc 2 _ rfl
                    clear hc
                    go_wp2_with fail
                    try go_simp
                    refine hK _ _ trivial ?_
                    clear hK K
                    obtain ⟨l4, hown4, hlen4⟩ : ∃ x : List Ev, Own ((w32).setCell ⟨g, q * 5+ 2, none⟩ (.string s19)) w1.heap.size 60 (some ⟨g, 0, none⟩) c' x ∧ x.length = l.length := ⟨_, Own.set_ev2 hown3 hql3 s19, by rw [List.length_set]; exact hlen3.out⟩
                    have hoB4 := hoB3.set hbw (p := ⟨g, q * 5+ 2, none⟩) (by simp only; omega) (.string s19)
                    have hql4 : q < l4.length := by omega
                    replace hlen4 := hide hlen4
                    obtain ⟨w35, hwn⟩ : ∃ x, x = (w32).setCell ⟨g, q * 5+ 2, none⟩ (.string s19) := ⟨_, rfl⟩
                    rw [← hwn] at hown4 hoB4 ⊢
                    clear hwn
                    refine tree_n rfl rfl _ rfl _ rfl ?_
                    try go_simp
                    refine tree_p rfl rfl rfl rfl _ rfl (by simp) (fun K hK => ?_)
                    apply Exists.intro
                    refine ⟨fun wq K' hK' => ?_, ?_⟩
                    · go_wp2_with fail
                      exact hK'
                    go_simp
                    refine hK _ ?_
                    clear hK K
                    refine tree_e0 (by kernel_rfl) rfl rfl (fun K hK => ?_)
                    have f3 := hown4.frozen (q * 5 + 3)
                    obtain ⟨cq, rfl, hc⟩ := hown4.cell_at (by decide) hql4
                    have c3 : w35.cell? ⟨g, q * 5 + 3, none⟩ = some (.string l4[q].job) := hc 3 _ rfl
                    clear hc
                    go_wp2_with fail
                    try go_simp
                    refine hK _ _ trivial ?_
                    clear hK K
                    refine tree_done ?_
                    obtain ⟨l5, hown5, hlen5⟩ : ∃ x : List Ev, Own ((w35).setCell ⟨g, q * 5+ 3, none⟩ (.string s26)) w1.heap.size 60 (some ⟨g, 0, none⟩) c' x ∧ x.length = l.length := ⟨_, Own.set_ev3 hown4 hql4 s26, by rw [List.length_set]; exact hlen4.out⟩
                    have hoB5 := hoB4.set hbw (p := ⟨g, q * 5+ 3, none⟩) (by simp only; omega) (.string s26)
                    have hql5 : q < l5.length := by omega
                    replace hlen5 := hide hlen5
                    obtain ⟨w38, hwn⟩ : ∃ x, x = (w35).setCell ⟨g, q * 5+ 3, none⟩ (.string s26) := ⟨_, rfl⟩
                    rw [← hwn] at hown5 hoB5 ⊢
                    clear hwn
                    rw [← hlen5.out]
                    have hl5 : l5.length ≤ 16 := by have := hlen5.out; omega
                    clear hlen5 hlen4 hlen3 hlen2 hown hown2 hown3 hown4 hoB hoB2 hoB3 hoB4
                    go_wp2_with fail
                    go_ret
                    exact ⟨l5, _, _, rfl, hown5.sl.mono (by omega), hl5, hown5.cap, hoB5.mono (by omega)⟩
                  · refine tree_e rfl rfl (fun K hK => ?_)
                    go_wp2_with fail
                    try go_simp
                    refine hK _ _ ((hown.pure (gr_alloc (World.grownBy.refl _ _) _))) ?_
                    clear hK K
                    obtain ⟨w18, hw18⟩ : ∃ x, x = (w25).alloc (.cells [.string l[q].pr, .string ⟨#[122, 122]⟩, .string ⟨#[]⟩].toArray 9) := ⟨_, rfl⟩
                    have hg18 : (w25).grownBy w18 none := by rw [hw18]; exact gr_alloc (World.grownBy.refl _ _) _
                    have hb18 : Box w18 (w25).heap.size 9 [.string l[q].pr, .string ⟨#[122, 122]⟩, .string ⟨#[]⟩] := by rw [hw18]; exact Box.new _ _ _
                    rw [← hw18]
                    clear hw18
                    obtain ⟨x18, hx18⟩ : ∃ x, x = (w25).heap.size := ⟨_, rfl⟩
                    rw [← hx18] at hb18 ⊢
                    have hxl18 : (w25).heap.size ≤ x18 := by omega
                    clear hx18
                    have hbx18 : b < x18 := by have := hoB.lt; omega
                    replace hoB := hoB.pure hg18
                    replace hown := hown.pure hg18
                    replace hb25 := hb25.pure hg18
                    refine tree_e rfl rfl (fun K hK => ?_)
                    go_wp2_with fail
                    refine (odd_any b _ _ _ w18 hoB.2 (by omega) (by omega) (by omega) (by omega)).mono ?_
                    rintro e w12 ⟨s12, rfl, _, ho12⟩
                    go_wp2_with fail
                    try go_simp
                    refine hK _ _ ((hown.s ho12 hb1)) ?_
                    clear hK K
                    replace hoB := hoB.trans ho12
                    replace hown := hown.s ho12 hb1
                    replace hb18 := hb18.gr ho12.1 (fun e => by injection e; omega)
                    replace hb25 := hb25.gr ho12.1 (fun e => by injection e; omega)
                    refine tree_e rfl rfl (fun K hK => ?_)
                    go_wp2_with fail
                    refine (some_any b _ _ _ _ [l[q].pr, ⟨#[122, 122]⟩, ⟨#[]⟩] w12 hoB.2 (by omega) (hb18.sl (row_strs _ _ _) (by omega) (by simp [maxLen])) rfl (by simp)).mono ?_
                    rintro e w19 ⟨s19, rfl, ho19⟩
                    go_wp2_with fail
                    try go_simp
                    refine hK _ _ ((hown.s ho19 hb1)) ?_
                    clear hK K
                    replace hoB := hoB.trans ho19
                    replace hown := hown.s ho19 hb1
                    replace hb25 := hb25.gr ho19.1 (fun e => by injection e; omega)
                    refine tree_e0 (by kernel_rfl) rfl rfl (fun K hK => ?_)
                    go_wp2_with fail
                    refine (some_any b _ _ _ _ [l[q].job, ⟨#[74]⟩, ⟨#[106, 49]⟩] w19 hoB.2 (by omega) (hb25.sl (row_strs _ _ _) (by omega) (by simp [maxLen])) rfl (by simp)).mono ?_
                    rintro e w26 ⟨s26, rfl, ho26⟩
                    go_wp2_with fail
                    try go_simp
                    refine hK _ _ trivial ?_
                    clear hK K
                    replace hoB := hoB.trans ho26
                    replace hown := hown.s ho26 hb1
                    refine tree_n rfl rfl _ rfl _ rfl ?_
                    try go_simp
                    refine tree_p rfl rfl rfl rfl _ rfl (by simp) (fun K hK => ?_)
                    apply Exists.intro
                    refine ⟨fun wq K' hK' => ?_, ?_⟩
                    · go_wp2_with fail
                      exact hK'
                    go_simp
                    refine hK _ ?_
                    clear hK K
                    refine tree_e0 (by kernel_rfl) rfl rfl (fun K hK => ?_)
                    have f0 := hown.frozen (q * 5)
                    obtain ⟨cq, rfl, hc⟩ := hown.cell_at (by decide) hql
                    have c0 : w26.cell? ⟨g, q * 5, none⟩ = some (.int .i64 l[q].at_) := hc 0 _ rfl
                    clear hc
                    go_wp2_with fail
                    try go_simp
                    refine hK _ _ trivial ?_
                    clear hK K
                    obtain ⟨l2, hown2, hlen2⟩ : ∃ x : List Ev, Own ((w26).setCell ⟨g, q * 5, none⟩ (.int .i64 s10)) w1.heap.size 60 (some ⟨g, 0, none⟩) c' x ∧ x.length = l.length := ⟨_, Own.set_ev0 hown hql s10, by rw [List.length_set]; skip⟩
                    have hoB2 := hoB.set hbw (p := ⟨g, q * 5, none⟩) (by simp only; omega) (.int .i64 s10)
                    have hql2 : q < l2.length := by omega
                    replace hlen2 := hide hlen2
                    obtain ⟨w29, hwn⟩ : ∃ x, x = (w26).setCell ⟨g, q * 5, none⟩ (.int .i64 s10) := ⟨_, rfl⟩
                    rw [← hwn] at hown2 hoB2 ⊢
                    clear hwn
                    refine tree_n rfl rfl _ rfl _ rfl ?_
                    try go_simp
                    refine tree_p rfl rfl rfl rfl _ rfl (by simp) (fun K hK => ?_)
                    apply Exists.intro
                    refine ⟨fun wq K' hK' => ?_, ?_⟩
                    · go_wp2_with fail
                      exact hK'
                    go_simp
                    refine hK _ ?_
                    clear hK K
                    refine tree_e0 (by kernel_rfl) rfl rfl (fun K hK => ?_)
                    have f1 := hown2.frozen (q * 5 + 1)
                    obtain ⟨cq, rfl, hc⟩ := hown2.cell_at (by decide) hql2
                    have c1 : w29.cell? ⟨g, q * 5 + 1, none⟩ = some (.int .i64 l2[q].kind) := hc 1 _ rfl
                    clear hc
                    go_wp2_with fail
                    try go_simp
                    refine hK _ _ trivial ?_
                    clear hK K
                    obtain ⟨l3, hown3, hlen3⟩ : ∃ x : List Ev, Own ((w29).setCell ⟨g, q * 5+ 1, none⟩ (.int .i64 s12)) w1.heap.size 60 (some ⟨g, 0, none⟩) c' x ∧ x.length = l.length := ⟨_, Own.set_ev1 hown2 hql2 s12, by rw [List.length_set]; exact hlen2.out⟩
                    have hoB3 := hoB2.set hbw (p := ⟨g, q * 5+ 1, none⟩) (by simp only; omega) (.int .i64 s12)
                    have hql3 : q < l3.length := by omega
                    replace hlen3 := hide hlen3
                    obtain ⟨w32, hwn⟩ : ∃ x, x = (w29).setCell ⟨g, q * 5+ 1, none⟩ (.int .i64 s12) := ⟨_, rfl⟩
                    rw [← hwn] at hown3 hoB3 ⊢
                    clear hwn
                    refine tree_n rfl rfl _ rfl _ rfl ?_
                    try go_simp
                    refine tree_p rfl rfl rfl rfl _ rfl (by simp) (fun K hK => ?_)
                    apply Exists.intro
                    refine ⟨fun wq K' hK' => ?_, ?_⟩
                    · go_wp2_with fail
                      exact hK'
                    go_simp
                    refine hK _ ?_
                    clear hK K
                    refine tree_e0 (by kernel_rfl) rfl rfl (fun K hK => ?_)
                    have f2 := hown3.frozen (q * 5 + 2)
                    obtain ⟨cq, rfl, hc⟩ := hown3.cell_at (by decide) hql3
                    have c2 : w32.cell? ⟨g, q * 5 + 2, none⟩ = some (.string l3[q].pr) := hc 2 _ rfl
                    clear hc
                    go_wp2_with fail
                    try go_simp
                    refine hK _ _ trivial ?_
                    clear hK K
                    obtain ⟨l4, hown4, hlen4⟩ : ∃ x : List Ev, Own ((w32).setCell ⟨g, q * 5+ 2, none⟩ (.string s19)) w1.heap.size 60 (some ⟨g, 0, none⟩) c' x ∧ x.length = l.length := ⟨_, Own.set_ev2 hown3 hql3 s19, by rw [List.length_set]; exact hlen3.out⟩
                    have hoB4 := hoB3.set hbw (p := ⟨g, q * 5+ 2, none⟩) (by simp only; omega) (.string s19)
                    have hql4 : q < l4.length := by omega
                    replace hlen4 := hide hlen4
                    obtain ⟨w35, hwn⟩ : ∃ x, x = (w32).setCell ⟨g, q * 5+ 2, none⟩ (.string s19) := ⟨_, rfl⟩
                    rw [← hwn] at hown4 hoB4 ⊢
                    clear hwn
                    refine tree_n rfl rfl _ rfl _ rfl ?_
                    try go_simp
                    refine tree_p rfl rfl rfl rfl _ rfl (by simp) (fun K hK => ?_)
                    apply Exists.intro
                    refine ⟨fun wq K' hK' => ?_, ?_⟩
                    · go_wp2_with fail
                      exact hK'
                    go_simp
                    refine hK _ ?_
                    clear hK K
                    refine tree_e0 (by kernel_rfl) rfl rfl (fun K hK => ?_)
                    have f3 := hown4.frozen (q * 5 + 3)
                    obtain ⟨cq, rfl, hc⟩ := hown4.cell_at (by decide) hql4
                    have c3 : w35.cell? ⟨g, q * 5 + 3, none⟩ = some (.string l4[q].job) := hc 3 _ rfl
                    clear hc
                    go_wp2_with fail
                    try go_simp
                    refine hK _ _ trivial ?_
                    clear hK K
                    refine tree_done ?_
                    obtain ⟨l5, hown5, hlen5⟩ : ∃ x : List Ev, Own ((w35).setCell ⟨g, q * 5+ 3, none⟩ (.string s26)) w1.heap.size 60 (some ⟨g, 0, none⟩) c' x ∧ x.length = l.length := ⟨_, Own.set_ev3 hown4 hql4 s26, by rw [List.length_set]; exact hlen4.out⟩
                    have hoB5 := hoB4.set hbw (p := ⟨g, q * 5+ 3, none⟩) (by simp only; omega) (.string s26)
                    have hql5 : q < l5.length := by omega
                    replace hlen5 := hide hlen5
                    obtain ⟨w38, hwn⟩ : ∃ x, x = (w35).setCell ⟨g, q * 5+ 3, none⟩ (.string s26) := ⟨_, rfl⟩
                    rw [← hwn] at hown5 hoB5 ⊢
                    clear hwn
                    rw [← hlen5.out]
                    have hl5 : l5.length ≤ 16 := by have := hlen5.out; omega
                    clear hlen5 hlen4 hlen3 hlen2 hown hown2 hown3 hown4 hoB hoB2 hoB3 hoB4
                    go_wp2_with fail
                    go_ret
                    exact ⟨l5, _, _, rfl, hown5.sl.mono (by omega), hl5, hown5.cap, hoB5.mono (by omega)⟩
            · refine tree_alt ?_ ?_
              · refine tree_e rfl rfl (fun K hK => ?_)
                go_wp2_with fail
                try go_simp
                refine hK _ _ ((hown.pure (gr_alloc (World.grownBy.refl _ _) _))) ?_
                clear hK K
                obtain ⟨w18, hw18⟩ : ∃ x, x = (w9).alloc (.cells [.string l[q].pr, .string ⟨#[122, 122]⟩, .string ⟨#[]⟩].toArray 9) := ⟨_, rfl⟩
                have hg18 : (w9).grownBy w18 none := by rw [hw18]; exact gr_alloc (World.grownBy.refl _ _) _
                have hb18 : Box w18 (w9).heap.size 9 [.string l[q].pr, .string ⟨#[122, 122]⟩, .string ⟨#[]⟩] := by rw [hw18]; exact Box.new _ _ _
                rw [← hw18]
                clear hw18
                obtain ⟨x18, hx18⟩ : ∃ x, x = (w9).heap.size := ⟨_, rfl⟩
                rw [← hx18] at hb18 ⊢
                have hxl18 : (w9).heap.size ≤ x18 := by omega
                clear hx18
                have hbx18 : b < x18 := by have := hoB.lt; omega
                replace hoB := hoB.pure hg18
                replace hown := hown.pure hg18
                replace hb9 := hb9.pure hg18
                refine tree_alt ?_ ?_
                · refine tree_e rfl rfl (fun K hK => ?_)
                  go_wp2_with fail
                  refine (pick_any b _ _ _ _ [l[q].at_, -1, 0] w18 hoB.2 (by omega) (hb9.sl (row_ints _ _ _) (by omega) (by simp [maxLen])) rfl (by simp)).mono ?_
                  rintro e w10 ⟨s10, rfl, _, ho10⟩
                  go_wp2_with fail
                  try go_simp
                  refine hK _ _ ((hown.s ho10 hb1)) ?_
                  clear hK K
                  replace hoB := hoB.trans ho10
                  replace hown := hown.s ho10 hb1
                  replace hb18 := hb18.gr ho10.1 (fun e => by injection e; omega)
                  refine tree_alt ?_ ?_
                  · refine tree_e rfl rfl (fun K hK => ?_)
                    go_wp2_with fail
                    refine (odd_any b _ _ _ w10 hoB.2 (by omega) (by omega) (by omega) (by omega)).mono ?_
                    rintro e w12 ⟨s12, rfl, _, ho12⟩
                    go_wp2_with fail
                    try go_simp
                    refine hK _ _ ((hown.s ho12 hb1)) ?_
                    clear hK K
                    replace hoB := hoB.trans ho12
                    replace hown := hown.s ho12 hb1
                    replace hb18 := hb18.gr ho12.1 (fun e => by injection e; omega)
                    refine tree_alt ?_ ?_
                    · refine tree_e rfl rfl (fun K hK => ?_)
                      go_wp2_with fail
                      refine (some_any b _ _ _ _ [l[q].pr, ⟨#[122, 122]⟩, ⟨#[]⟩] w12 hoB.2 (by omega) (hb18.sl (row_strs _ _ _) (by omega) (by simp [maxLen])) rfl (by simp)).mono ?_
                      rintro e w19 ⟨s19, rfl, ho19⟩
                      go_wp2_with fail
                      try go_simp
                      refine hK _ _ ((hown.s ho19 hb1)) ?_
                      clear hK K
                      replace hoB := hoB.trans ho19
                      replace hown := hown.s ho19 hb1
                      refine tree_e rfl rfl (fun K hK => ?_)
                      go_wp2_with fail
                      try go_simp
                      refine hK _ _ ((hown.pure (gr_alloc (World.grownBy.refl _ _) _))) ?_
                      clear hK K
                      obtain ⟨w25, hw25⟩ : ∃ x, x = (w19).alloc (.cells [.string l[q].job, .string ⟨#[74]⟩, .string ⟨#[106, 49]⟩].toArray 9) := ⟨_, rfl⟩
                      have hg25 : (w19).grownBy w25 none := by rw [hw25]; exact gr_alloc (World.grownBy.refl _ _) _
                      have hb25 : Box w25 (w19).heap.size 9 [.string l[q].job, .string ⟨#[74]⟩, .string ⟨#[106, 49]⟩] := by rw [hw25]; exact Box.new _ _ _
                      rw [← hw25]
                      clear hw25
                      obtain ⟨x25, hx25⟩ : ∃ x, x = (w19).heap.size := ⟨_, rfl⟩
                      rw [← hx25] at hb25 ⊢
                      have hxl25 : (w19).heap.size ≤ x25 := by omega
                      clear hx25
                      have hbx25 : b < x25 := by have := hoB.lt; omega
                      replace hoB := hoB.pure hg25
                      replace hown := hown.pure hg25
                      refine tree_e0 (by kernel_rfl) rfl rfl (fun K hK => ?_)
                      go_wp2_with fail
                      refine (some_any b _ _ _ _ [l[q].job, ⟨#[74]⟩, ⟨#[106, 49]⟩] w25 hoB.2 (by omega) (hb25.sl (row_strs _ _ _) (by omega) (by simp [maxLen])) rfl (by simp)).mono ?_
                      rintro e w26 ⟨s26, rfl, ho26⟩
                      go_wp2_with fail
                      try go_simp
                      refine hK _ _ trivial ?_
                      clear hK K
                      replace hoB := hoB.trans ho26
                      replace hown := hown.s ho26 hb1
                      refine tree_n rfl rfl _ rfl _ rfl ?_
                      try go_simp
                      refine tree_p rfl rfl rfl rfl _ rfl (by simp) (fun K hK => ?_)
                      apply Exists.intro
                      refine ⟨fun wq K' hK' => ?_, ?_⟩
                      · go_wp2_with fail
                        exact hK'
                      go_simp
                      refine hK _ ?_
                      clear hK K
                      refine tree_e0 (by kernel_rfl) rfl rfl (fun K hK => ?_)
                      have f0 := hown.frozen (q * 5)
                      obtain ⟨cq, rfl, hc⟩ := hown.cell_at (by decide) hql
                      have c0 : w26.cell? ⟨g, q * 5, none⟩ = some (.int .i64 l[q].at_) := hc 0 _ rfl
                      clear hc
                      go_wp2_with fail
                      try go_simp
                      refine hK _ _ trivial ?_
                      clear hK K
                      obtain ⟨l2, hown2, hlen2⟩ : ∃ x : List Ev, Own ((w26).setCell ⟨g, q * 5, none⟩ (.int .i64 s10)) w1.heap.size 60 (some ⟨g, 0, none⟩) c' x ∧ x.length = l.length := ⟨_, Own.set_ev0 hown hql s10, by rw [List.length_set]; skip⟩
                      have hoB2 := hoB.set hbw (p := ⟨g, q * 5, none⟩) (by simp only; omega) (.int .i64 s10)
                      have hql2 : q < l2.length := by omega
                      replace hlen2 := hide hlen2
                      obtain ⟨w29, hwn⟩ : ∃ x, x = (w26).setCell ⟨g, q * 5, none⟩ (.int .i64 s10) := ⟨_, rfl⟩
                      rw [← hwn] at hown2 hoB2 ⊢
                      clear hwn
                      refine tree_n rfl rfl _ rfl _ rfl ?_
                      try go_simp
                      refine tree_p rfl rfl rfl rfl _ rfl (by simp) (fun K hK => ?_)
                      apply Exists.intro
                      refine ⟨fun wq K' hK' => ?_, ?_⟩
                      · go_wp2_with fail
                        exact hK'
                      go_simp
                      refine hK _ ?_
                      clear hK K
                      refine tree_e0 (by kernel_rfl) rfl rfl (fun K hK => ?_)
                      have f1 := hown2.frozen (q * 5 + 1)
                      obtain ⟨cq, rfl, hc⟩ := hown2.cell_at (by decide) hql2
                      have c1 : w29.cell? ⟨g, q * 5 + 1, none⟩ = some (.int .i64 l2[q].kind) := hc 1 _ rfl
                      clear hc
                      go_wp2_with fail
                      try go_simp
                      refine hK _ _ trivial ?_
                      clear hK K
                      obtain ⟨l3, hown3, hlen3⟩ : ∃ x : List Ev, Own ((w29).setCell ⟨g, q * 5+ 1, none⟩ (.int .i64 s12)) w1.heap.size 60 (some ⟨g, 0, none⟩) c' x ∧ x.length = l.length := ⟨_, Own.set_ev1 hown2 hql2 s12, by rw [List.length_set]; exact hlen2.out⟩
                      have hoB3 := hoB2.set hbw (p := ⟨g, q * 5+ 1, none⟩) (by simp only; omega) (.int .i64 s12)
                      have hql3 : q < l3.length := by omega
                      replace hlen3 := hide hlen3
                      obtain ⟨w32, hwn⟩ : ∃ x, x = (w29).setCell ⟨g, q * 5+ 1, none⟩ (.int .i64 s12) := ⟨_, rfl⟩
                      rw [← hwn] at hown3 hoB3 ⊢
                      clear hwn
                      refine tree_n rfl rfl _ rfl _ rfl ?_
                      try go_simp
                      refine tree_p rfl rfl rfl rfl _ rfl (by simp) (fun K hK => ?_)
                      apply Exists.intro
                      refine ⟨fun wq K' hK' => ?_, ?_⟩
                      · go_wp2_with fail
                        exact hK'
                      go_simp
                      refine hK _ ?_
                      clear hK K
                      refine tree_e0 (by kernel_rfl) rfl rfl (fun K hK => ?_)
                      have f2 := hown3.frozen (q * 5 + 2)
                      obtain ⟨cq, rfl, hc⟩ := hown3.cell_at (by decide) hql3
                      have c2 : w32.cell? ⟨g, q * 5 + 2, none⟩ = some (.string l3[q].pr) := hc 2 _ rfl
                      clear hc
                      go_wp2_with fail
                      try go_simp
                      refine hK _ _ trivial ?_
                      clear hK K
                      obtain ⟨l4, hown4, hlen4⟩ : ∃ x : List Ev, Own ((w32).setCell ⟨g, q * 5+ 2, none⟩ (.string s19)) w1.heap.size 60 (some ⟨g, 0, none⟩) c' x ∧ x.length = l.length := ⟨_, Own.set_ev2 hown3 hql3 s19, by rw [List.length_set]; exact hlen3.out⟩
                      have hoB4 := hoB3.set hbw (p := ⟨g, q * 5+ 2, none⟩) (by simp only; omega) (.string s19)
                      have hql4 : q < l4.length := by omega
                      replace hlen4 := hide hlen4
                      obtain ⟨w35, hwn⟩ : ∃ x, x = (w32).setCell ⟨g, q * 5+ 2, none⟩ (.string s19) := ⟨_, rfl⟩
                      rw [← hwn] at hown4 hoB4 ⊢
                      clear hwn
                      refine tree_n rfl rfl _ rfl _ rfl ?_
                      try go_simp
                      refine tree_p rfl rfl rfl rfl _ rfl (by simp) (fun K hK => ?_)
                      apply Exists.intro
                      refine ⟨fun wq K' hK' => ?_, ?_⟩
                      · go_wp2_with fail
                        exact hK'
                      go_simp
                      refine hK _ ?_
                      clear hK K
                      refine tree_e0 (by kernel_rfl) rfl rfl (fun K hK => ?_)
                      have f3 := hown4.frozen (q * 5 + 3)
                      obtain ⟨cq, rfl, hc⟩ := hown4.cell_at (by decide) hql4
                      have c3 : w35.cell? ⟨g, q * 5 + 3, none⟩ = some (.string l4[q].job) := hc 3 _ rfl
                      clear hc
                      go_wp2_with fail
                      try go_simp
                      refine hK _ _ trivial ?_
                      clear hK K
                      refine tree_done ?_
                      obtain ⟨l5, hown5, hlen5⟩ : ∃ x : List Ev, Own ((w35).setCell ⟨g, q * 5+ 3, none⟩ (.string s26)) w1.heap.size 60 (some ⟨g, 0, none⟩) c' x ∧ x.length = l.length := ⟨_, Own.set_ev3 hown4 hql4 s26, by rw [List.length_set]; exact hlen4.out⟩
                      have hoB5 := hoB4.set hbw (p := ⟨g, q * 5+ 3, none⟩) (by simp only; omega) (.string s26)
                      have hql5 : q < l5.length := by omega
                      replace hlen5 := hide hlen5
                      obtain ⟨w38, hwn⟩ : ∃ x, x = (w35).setCell ⟨g, q * 5+ 3, none⟩ (.string s26) := ⟨_, rfl⟩
                      rw [← hwn] at hown5 hoB5 ⊢
                      clear hwn
                      rw [← hlen5.out]
                      have hl5 : l5.length ≤ 16 := by have := hlen5.out; omega
                      clear hlen5 hlen4 hlen3 hlen2 hown hown2 hown3 hown4 hoB hoB2 hoB3 hoB4
                      go_wp2_with fail
                      go_ret
                      exact ⟨l5, _, _, rfl, hown5.sl.mono (by omega), hl5, hown5.cap, hoB5.mono (by omega)⟩
                    · refine tree_e rfl rfl (fun K hK => ?_)
                      go_wp2_with fail
                      try go_simp
                      refine hK _ _ ((hown.pure (gr_alloc (World.grownBy.refl _ _) _))) ?_
                      clear hK K
                      obtain ⟨w25, hw25⟩ : ∃ x, x = (w12).alloc (.cells [.string l[q].job, .string ⟨#[74]⟩, .string ⟨#[106, 49]⟩].toArray 9) := ⟨_, rfl⟩
                      have hg25 : (w12).grownBy w25 none := by rw [hw25]; exact gr_alloc (World.grownBy.refl _ _) _
                      have hb25 : Box w25 (w12).heap.size 9 [.string l[q].job, .string ⟨#[74]⟩, .string ⟨#[106, 49]⟩] := by rw [hw25]; exact Box.new _ _ _
                      rw [← hw25]
                      clear hw25
                      obtain ⟨x25, hx25⟩ : ∃ x, x = (w12).heap.size := ⟨_, rfl⟩
                      rw [← hx25] at hb25 ⊢
                      have hxl25 : (w12).heap.size ≤ x25 := by omega
                      clear hx25
                      have hbx25 : b < x25 := by have := hoB.lt; omega
                      replace hoB := hoB.pure hg25
                      replace hown := hown.pure hg25
                      replace hb18 := hb18.pure hg25
                      refine tree_e rfl rfl (fun K hK => ?_)
                      go_wp2_with fail
                      refine (some_any b _ _ _ _ [l[q].pr, ⟨#[122, 122]⟩, ⟨#[]⟩] w25 hoB.2 (by omega) (hb18.sl (row_strs _ _ _) (by omega) (by simp [maxLen])) rfl (by simp)).mono ?_
                      rintro e w19 ⟨s19, rfl, ho19⟩
                      go_wp2_with fail
                      try go_simp
                      refine hK _ _ ((hown.s ho19 hb1)) ?_
                      clear hK K
                      replace hoB := hoB.trans ho19
                      replace hown := hown.s ho19 hb1
                      replace hb25 := hb25.gr ho19.1 (fun e => by injection e; omega)
                      refine tree_e0 (by kernel_rfl) rfl rfl (fun K hK => ?_)
                      go_wp2_with fail
                      refine (some_any b _ _ _ _ [l[q].job, ⟨#[74]⟩, ⟨#[106, 49]⟩] w19 hoB.2 (by omega) (hb25.sl (row_strs _ _ _) (by omega) (by simp [maxLen])) rfl (by simp)).mono ?_
                      rintro e w26 ⟨s26, rfl, ho26⟩
                      go_wp2_with fail
                      try go_simp
                      refine hK _ _ trivial ?_
                      clear hK K
                      replace hoB := hoB.trans ho26
                      replace hown := hown.s ho26 hb1
                      refine tree_n rfl rfl _ rfl _ rfl ?_
                      try go_simp
                      refine tree_p rfl rfl rfl rfl _ rfl (by simp) (fun K hK => ?_)
                      apply Exists.intro
                      refine ⟨fun wq K' hK' => ?_, ?_⟩
                      · go_wp2_with fail
                        exact hK'
                      go_simp
                      refine hK _ ?_
                      clear hK K
                      refine tree_e0 (by kernel_rfl) rfl rfl (fun K hK => ?_)
                      have f0 := hown.frozen (q * 5)
                      obtain ⟨cq, rfl, hc⟩ := hown.cell_at (by decide) hql
                      have c0 : w26.cell? ⟨g, q * 5, none⟩ = some (.int .i64 l[q].at_) := hc 0 _ rfl
                      clear hc
                      go_wp2_with fail
                      try go_simp
                      refine hK _ _ trivial ?_
                      clear hK K
                      obtain ⟨l2, hown2, hlen2⟩ : ∃ x : List Ev, Own ((w26).setCell ⟨g, q * 5, none⟩ (.int .i64 s10)) w1.heap.size 60 (some ⟨g, 0, none⟩) c' x ∧ x.length = l.length := ⟨_, Own.set_ev0 hown hql s10, by rw [List.length_set]; skip⟩
                      have hoB2 := hoB.set hbw (p := ⟨g, q * 5, none⟩) (by simp only; omega) (.int .i64 s10)
                      have hql2 : q < l2.length := by omega
                      replace hlen2 := hide hlen2
                      obtain ⟨w29, hwn⟩ : ∃ x, x = (w26).setCell ⟨g, q * 5, none⟩ (.int .i64 s10) := ⟨_, rfl⟩
                      rw [← hwn] at hown2 hoB2 ⊢
                      clear hwn
                      refine tree_n rfl rfl _ rfl _ rfl ?_
                      try go_simp
                      refine tree_p rfl rfl rfl rfl _ rfl (by simp) (fun K hK => ?_)
                      apply Exists.intro
                      refine ⟨fun wq K' hK' => ?_, ?_⟩
                      · go_wp2_with fail
                        exact hK'
                      go_simp
                      refine hK _ ?_
                      clear hK K
                      refine tree_e0 (by kernel_rfl) rfl rfl (fun K hK => ?_)
                      have f1 := hown2.frozen (q * 5 + 1)
                      obtain ⟨cq, rfl, hc⟩ := hown2.cell_at (by decide) hql2
                      have c1 : w29.cell? ⟨g, q * 5 + 1, none⟩ = some (.int .i64 l2[q].kind) := hc 1 _ rfl
                      clear hc
                      go_wp2_with fail
                      try go_simp
                      refine hK _ _ trivial ?_
                      clear hK K
                      obtain ⟨l3, hown3, hlen3⟩ : ∃ x : List Ev, Own ((w29).setCell ⟨g, q * 5+ 1, none⟩ (.int .i64 s12)) w1.heap.size 60 (some ⟨g, 0, none⟩) c' x ∧ x.length = l.length := ⟨_, Own.set_ev1 hown2 hql2 s12, by rw [List.length_set]; exact hlen2.out⟩
                      have hoB3 := hoB2.set hbw (p := ⟨g, q * 5+ 1, none⟩) (by simp only; omega) (.int .i64 s12)
                      have hql3 : q < l3.length := by omega
                      replace hlen3 := hide hlen3
                      obtain ⟨w32, hwn⟩ : ∃ x, x = (w29).setCell ⟨g, q * 5+ 1, none⟩ (.int .i64 s12) := ⟨_, rfl⟩
                      rw [← hwn] at hown3 hoB3 ⊢
                      clear hwn
                      refine tree_n rfl rfl _ rfl _ rfl ?_
                      try go_simp
                      refine tree_p rfl rfl rfl rfl _ rfl (by simp) (fun K hK => ?_)
                      apply Exists.intro
                      refine ⟨fun wq K' hK' => ?_, ?_⟩
                      · go_wp2_with fail
                        exact hK'
                      go_simp
                      refine hK _ ?_
                      clear hK K
                      refine tree_e0 (by kernel_rfl) rfl rfl (fun K hK => ?_)
                      have f2 := hown3.frozen (q * 5 + 2)
                      obtain ⟨cq, rfl, hc⟩ := hown3.cell_at (by decide) hql3
                      have c2 : w32.cell? ⟨g, q * 5 + 2, none⟩ = some (.string l3[q].pr) := hc 2 _ rfl
                      clear hc
                      go_wp2_with fail
                      try go_simp
                      refine hK _ _ trivial ?_
                      clear hK K
                      obtain ⟨l4, hown4, hlen4⟩ : ∃ x : List Ev, Own ((w32).setCell ⟨g, q * 5+ 2, none⟩ (.string s19)) w1.heap.size 60 (some ⟨g, 0, none⟩) c' x ∧ x.length = l.length := ⟨_, Own.set_ev2 hown3 hql3 s19, by rw [List.length_set]; exact hlen3.out⟩
                      have hoB4 := hoB3.set hbw (p := ⟨g, q * 5+ 2, none⟩) (by simp only; omega) (.string s19)
                      have hql4 : q < l4.length := by omega
                      replace hlen4 := hide hlen4
                      obtain ⟨w35, hwn⟩ : ∃ x, x = (w32).setCell ⟨g, q * 5+ 2, none⟩ (.string s19) := ⟨_, rfl⟩
                      rw [← hwn] at hown4 hoB4 ⊢
                      clear hwn
                      refine tree_n rfl rfl _ rfl _ rfl ?_
                      try go_simp
                      refine tree_p rfl rfl rfl rfl _ rfl (by simp) (fun K hK => ?_)
                      apply Exists.intro
                      refine ⟨fun wq K' hK' => ?_, ?_⟩
                      · go_wp2_with fail
                        exact hK'
                      go_simp
                      refine hK _ ?_
                      clear hK K
                      refine tree_e0 (by kernel_rfl) rfl rfl (fun K hK => ?_)
                      have f3 := hown4.frozen (q * 5 + 3)
                      obtain ⟨cq, rfl, hc⟩ := hown4.cell_at (by decide) hql4
                      have c3 : w35.cell? ⟨g, q * 5 + 3, none⟩ = some (.string l4[q].job) := hc 3 _ rfl
                      clear hc
                      go_wp2_with fail
                      try go_simp
                      refine hK _ _ trivial ?_
                      clear hK K
                      refine tree_done ?_
                      obtain ⟨l5, hown5, hlen5⟩ : ∃ x : List Ev, Own ((w35).setCell ⟨g, q * 5+ 3, none⟩ (.string s26)) w1.heap.size 60 (some ⟨g, 0, none⟩) c' x ∧ x.length = l.length := ⟨_, Own.set_ev3 hown4 hql4 s26, by rw [List.length_set]; exact hlen4.out⟩
                      have hoB5 := hoB4.set hbw (p := ⟨g, q * 5+ 3, none⟩) (by simp only; omega) (.string s26)
                      have hql5 : q < l5.length := by omega
                      replace hlen5 := hide hlen5
                      obtain ⟨w38, hwn⟩ : ∃ x, x = (w35).setCell ⟨g, q * 5+ 3, none⟩ (.string s26) := ⟨_, rfl⟩
                      rw [← hwn] at hown5 hoB5 ⊢
                      clear hwn
                      rw [← hlen5.out]
                      have hl5 : l5.length ≤ 16 := by have := hlen5.out; omega
                      clear hlen5 hlen4 hlen3 hlen2 hown hown2 hown3 hown4 hoB hoB2 hoB3 hoB4
                      go_wp2_with fail
                      go_ret
                      exact ⟨l5, _, _, rfl, hown5.sl.mono (by omega), hl5, hown5.cap, hoB5.mono (by omega)⟩
                  · refine tree_e rfl rfl (fun K hK => ?_)
                    go_wp2_with fail
                    try go_simp
                    refine hK _ _ ((hown.pure (gr_alloc (World.grownBy.refl _ _) _))) ?_
                    clear hK K
                    obtain ⟨w25, hw25⟩ : ∃ x, x = (w10).alloc (.cells [.string l[q].job, .string ⟨#[74]⟩, .string ⟨#[106, 49]⟩].toArray 9) := ⟨_, rfl⟩
                    have hg25 : (w10).grownBy w25 none := by rw [hw25]; exact gr_alloc (World.grownBy.refl _ _) _
                    have hb25 : Box w25 (w10).heap.size 9 [.string l[q].job, .string ⟨#[74]⟩, .string ⟨#[106, 49]⟩] := by rw [hw25]; exact Box.new _ _ _
                    rw [← hw25]
                    clear hw25
                    obtain ⟨x25, hx25⟩ : ∃ x, x = (w10).heap.size := ⟨_, rfl⟩
                    rw [← hx25] at hb25 ⊢
                    have hxl25 : (w10).heap.size ≤ x25 := by omega
                    clear hx25
                    have hbx25 : b < x25 := by have := hoB.lt; omega
                    replace hoB := hoB.pure hg25
                    replace hown := hown.pure hg25
                    replace hb18 := hb18.pure hg25
                    refine tree_e rfl rfl (fun K hK => ?_)
                    go_wp2_with fail
                    refine (odd_any b _ _ _ w25 hoB.2 (by omega) (by omega) (by omega) (by omega)).mono ?_
                    rintro e w12 ⟨s12, rfl, _, ho12⟩
                    go_wp2_with fail
                    try go_simp
                    refine hK _ _ ((hown.s ho12 hb1)) ?_
                    clear hK K
                    replace hoB := hoB.trans ho12
                    replace hown := hown.s ho12 hb1
                    replace hb18 := hb18.gr ho12.1 (fun e => by injection e; omega)
                    replace hb25 := hb25.gr ho12.1 (fun e => by injection e; omega)
                    refine tree_e rfl rfl (fun K hK => ?_)
                    go_wp2_with fail
                    refine (some_any b _ _ _ _ [l[q].pr, ⟨#[122, 122]⟩, ⟨#[]⟩] w12 hoB.2 (by omega) (hb18.sl (row_strs _ _ _) (by omega) (by simp [maxLen])) rfl (by simp)).mono ?_
                    rintro e w19 ⟨s19, rfl, ho19⟩
                    go_wp2_with fail
                    try go_simp
                    refine hK _ _ ((hown.s ho19 hb1)) ?_
                    clear hK K
                    replace hoB := hoB.trans ho19
                    replace hown := hown.s ho19 hb1
                    replace hb25 := hb25.gr ho19.1 (fun e => by injection e; omega)
                    refine tree_e0 (by kernel_rfl) rfl rfl (fun K hK => ?_)
                    go_wp2_with fail
                    refine (some_any b _ _ _ _ [l[q].job, ⟨#[74]⟩, ⟨#[106, 49]⟩] w19 hoB.2 (by omega) (hb25.sl (row_strs _ _ _) (by omega) (by simp [maxLen])) rfl (by simp)).mono ?_
                    rintro e w26 ⟨s26, rfl, ho26⟩
                    go_wp2_with fail
                    try go_simp
                    refine hK _ _ trivial ?_
                    clear hK K
                    replace hoB := hoB.trans ho26
                    replace hown := hown.s ho26 hb1
                    refine tree_n rfl rfl _ rfl _ rfl ?_
                    try go_simp
                    refine tree_p rfl rfl rfl rfl _ rfl (by simp) (fun K hK => ?_)
                    apply Exists.intro
                    refine ⟨fun wq K' hK' => ?_, ?_⟩
                    · go_wp2_with fail
                      exact hK'
                    go_simp
                    refine hK _ ?_
                    clear hK K
                    refine tree_e0 (by kernel_rfl) rfl rfl (fun K hK => ?_)
                    have f0 := hown.frozen (q * 5)
                    obtain ⟨cq, rfl, hc⟩ := hown.cell_at (by decide) hql
                    have c0 : w26.cell? ⟨g, q * 5, none⟩ = some (.int .i64 l[q].at_) := hc 0 _ rfl
                    clear hc
                    go_wp2_with fail
                    try go_simp
                    refine hK _ _ trivial ?_
                    clear hK K
                    obtain ⟨l2, hown2, hlen2⟩ : ∃ x : List Ev, Own ((w26).setCell ⟨g, q * 5, none⟩ (.int .i64 s10)) w1.heap.size 60 (some ⟨g, 0, none⟩) c' x ∧ x.length = l.length := ⟨_, Own.set_ev0 hown hql s10, by rw [List.length_set]; skip⟩
                    have hoB2 := hoB.set hbw (p := ⟨g, q * 5, none⟩) (by simp only; omega) (.int .i64 s10)
                    have hql2 : q < l2.length := by omega
                    replace hlen2 := hide hlen2
                    obtain ⟨w29, hwn⟩ : ∃ x, x = (w26).setCell ⟨g, q * 5, none⟩ (.int .i64 s10) := ⟨_, rfl⟩
                    rw [← hwn] at hown2 hoB2 ⊢
                    clear hwn
                    refine tree_n rfl rfl _ rfl _ rfl ?_
                    try go_simp
                    refine tree_p rfl rfl rfl rfl _ rfl (by simp) (fun K hK => ?_)
                    apply Exists.intro
                    refine ⟨fun wq K' hK' => ?_, ?_⟩
                    · go_wp2_with fail
                      exact hK'
                    go_simp
                    refine hK _ ?_
                    clear hK K
                    refine tree_e0 (by kernel_rfl) rfl rfl (fun K hK => ?_)
                    have f1 := hown2.frozen (q * 5 + 1)
                    obtain ⟨cq, rfl, hc⟩ := hown2.cell_at (by decide) hql2
                    have c1 : w29.cell? ⟨g, q * 5 + 1, none⟩ = some (.int .i64 l2[q].kind) := hc 1 _ rfl
                    clear hc
                    go_wp2_with fail
                    try go_simp
                    refine hK _ _ trivial ?_
                    clear hK K
                    obtain ⟨l3, hown3, hlen3⟩ : ∃ x : List Ev, Own ((w29).setCell ⟨g, q * 5+ 1, none⟩ (.int .i64 s12)) w1.heap.size 60 (some ⟨g, 0, none⟩) c' x ∧ x.length = l.length := ⟨_, Own.set_ev1 hown2 hql2 s12, by rw [List.length_set]; exact hlen2.out⟩
                    have hoB3 := hoB2.set hbw (p := ⟨g, q * 5+ 1, none⟩) (by simp only; omega) (.int .i64 s12)
                    have hql3 : q < l3.length := by omega
                    replace hlen3 := hide hlen3
                    obtain ⟨w32, hwn⟩ : ∃ x, x = (w29).setCell ⟨g, q * 5+ 1, none⟩ (.int .i64 s12) := ⟨_, rfl⟩
                    rw [← hwn] at hown3 hoB3 ⊢
                    clear hwn
                    refine tree_n rfl rfl _ rfl _ rfl ?_
                    try go_simp
                    refine tree_p rfl rfl rfl rfl _ rfl (by simp) (fun K hK => ?_)
                    apply Exists.intro
                    refine ⟨fun wq K' hK' => ?_, ?_⟩
                    · go_wp2_with fail
                      exact hK'
                    go_simp
                    refine hK _ ?_
                    clear hK K
                    refine tree_e0 (by kernel_rfl) rfl rfl (fun K hK => ?_)
                    have f2 := hown3.frozen (q * 5 + 2)
                    obtain ⟨cq, rfl, hc⟩ := hown3.cell_at (by decide) hql3
                    have c2 : w32.cell? ⟨g, q * 5 + 2, none⟩ = some (.string l3[q].pr) := hc 2 _ rfl
                    clear hc
                    go_wp2_with fail
                    try go_simp
                    refine hK _ _ trivial ?_
                    clear hK K
                    obtain ⟨l4, hown4, hlen4⟩ : ∃ x : List Ev, Own ((w32).setCell ⟨g, q * 5+ 2, none⟩ (.string s19)) w1.heap.size 60 (some ⟨g, 0, none⟩) c' x ∧ x.length = l.length := ⟨_, Own.set_ev2 hown3 hql3 s19, by rw [List.length_set]; exact hlen3.out⟩
                    have hoB4 := hoB3.set hbw (p := ⟨g, q * 5+ 2, none⟩) (by simp only; omega) (.string s19)
                    have hql4 : q < l4.length := by omega
                    replace hlen4 := hide hlen4
                    obtain ⟨w35, hwn⟩ : ∃ x, x = (w32).setCell ⟨g, q * 5+ 2, none⟩ (.string s19) := ⟨_, rfl⟩
                    rw [← hwn] at hown4 hoB4 ⊢
                    clear hwn
                    refine tree_n rfl rfl _ rfl _ rfl ?_
                    try go_simp
                    refine tree_p rfl rfl rfl rfl _ rfl (by simp) (fun K hK => ?_)
                    apply Exists.intro
                    refine ⟨fun wq K' hK' => ?_, ?_⟩
                    · go_wp2_with fail
                      exact hK'
                    go_simp
                    refine hK _ ?_
                    clear hK K
                    refine tree_e0 (by kernel_rfl) rfl rfl (fun K hK => ?_)
                    have f3 := hown4.frozen (q * 5 + 3)
                    obtain ⟨cq, rfl, hc⟩ := hown4.cell_at (by decide) hql4
                    have c3 : w35.cell? ⟨g, q * 5 + 3, none⟩ = some (.string l4[q].job) := hc 3 _ rfl
                    clear hc
                    go_wp2_with fail
                    try go_simp
                    refine hK _ _ trivial ?_
                    clear hK K
                    refine tree_done ?_
                    obtain ⟨l5, hown5, hlen5⟩ : ∃ x : List Ev, Own ((w35).setCell ⟨g, q * 5+ 3, none⟩ (.string s26)) w1.heap.size 60 (some ⟨g, 0, none⟩) c' x ∧ x.length = l.length := ⟨_, Own.set_ev3 hown4 hql4 s26, by rw [List.length_set]; exact hlen4.out⟩
                    have hoB5 := hoB4.set hbw (p := ⟨g, q * 5+ 3, none⟩) (by simp only; omega) (.string s26)
                    have hql5 : q < l5.length := by omega
                    replace hlen5 := hide hlen5
                    obtain ⟨w38, hwn⟩ : ∃ x, x = (w35).setCell ⟨g, q * 5+ 3, none⟩ (.string s26) := ⟨_, rfl⟩
                    rw [← hwn] at hown5 hoB5 ⊢
                    clear hwn
                    rw [← hlen5.out]
                    have hl5 : l5.length ≤ 16 := by have := hlen5.out; omega
                    clear hlen5 hlen4 hlen3 hlen2 hown hown2 hown3 hown4 hoB hoB2 hoB3 hoB4
                    go_wp2_with fail
                    go_ret
                    exact ⟨l5, _, _, rfl, hown5.sl.mono (by omega), hl5, hown5.cap, hoB5.mono (by omega)⟩
                · refine tree_e rfl rfl (fun K hK => ?_)
                  go_wp2_with fail
                  try go_simp
                  refine hK _ _ ((hown.pure (gr_alloc (World.grownBy.refl _ _) _))) ?_
                  clear hK K
                  obtain ⟨w25, hw25⟩ : ∃ x, x = (w18).alloc (.cells [.string l[q].job, .string ⟨#[74]⟩, .string ⟨#[106, 49]⟩].toArray 9) := ⟨_, rfl⟩
                  have hg25 : (w18).grownBy w25 none := by rw [hw25]; exact gr_alloc (World.grownBy.refl _ _) _
                  have hb25 : Box w25 (w18).heap.size 9 [.string l[q].job, .string ⟨#[74]⟩, .string ⟨#[106, 49]⟩] := by rw [hw25]; exact Box.new _ _ _
                  rw [← hw25]
                  clear hw25
                  obtain ⟨x25, hx25⟩ : ∃ x, x = (w18).heap.size := ⟨_, rfl⟩
                  rw [← hx25] at hb25 ⊢
                  have hxl25 : (w18).heap.size ≤ x25 := by omega
                  clear hx25
                  have hbx25 : b < x25 := by have := hoB.lt; omega
                  replace hoB := hoB.pure hg25
                  replace hown := hown.pure hg25
                  replace hb9 := hb9.pure hg25
                  replace hb18 := hb18.pure hg25
                  refine tree_e rfl rfl (fun K hK => ?_)
                  go_wp2_with fail
                  refine (pick_any b _ _ _ _ [l[q].at_, -1, 0] w25 hoB.2 (by omega) (hb9.sl (row_ints _ _ _) (by omega) (by simp [maxLen])) rfl (by simp)).mono ?_
                  rintro e w10 ⟨s10, rfl, _, ho10⟩
                  go_wp2_with fail
                  try go_simp
                  refine hK _ _ ((hown.s ho10 hb1)) ?_
                  clear hK K
                  replace hoB := hoB.trans ho10
                  replace hown := hown.s ho10 hb1
                  replace hb18 := hb18.gr ho10.1 (fun e => by injection e; omega)
                  replace hb25 := hb25.gr ho10.1 (fun e => by injection e; omega)
                  refine tree_e rfl rfl (fun K hK => ?_)
                  go_wp2_with fail
                  refine (odd_any b _ _ _ w10 hoB.2 (by omega) (by omega) (by omega) (by omega)).mono ?_
                  rintro e w12 ⟨s12, rfl, _, ho12⟩
                  go_wp2_with fail
                  try go_simp
                  refine hK _ _ ((hown.s ho12 hb1)) ?_
                  clear hK K
                  replace hoB := hoB.trans ho12
                  replace hown := hown.s ho12 hb1
                  replace hb18 := hb18.gr ho12.1 (fun e => by injection e; omega)
                  replace hb25 := hb25.gr ho12.1 (fun e => by injection e; omega)
                  refine tree_e rfl rfl (fun K hK => ?_)
                  go_wp2_with fail
                  refine (some_any b _ _ _ _ [l[q].pr, ⟨#[122, 122]⟩, ⟨#[]⟩] w12 hoB.2 (by omega) (hb18.sl (row_strs _ _ _) (by omega) (by simp [maxLen])) rfl (by simp)).mono ?_
                  rintro e w19 ⟨s19, rfl, ho19⟩
                  go_wp2_with fail
                  try go_simp
                  refine hK _ _ ((hown.s ho19 hb1)) ?_
                  clear hK K
                  replace hoB := hoB.trans ho19
                  replace hown := hown.s ho19 hb1
                  replace hb25 := hb25.gr ho19.1 (fun e => by injection e; omega)
                  refine tree_e0 (by kernel_rfl) rfl rfl (fun K hK => ?_)
                  go_wp2_with fail
                  refine (some_any b _ _ _ _ [l[q].job, ⟨#[74]⟩, ⟨#[106, 49]⟩] w19 hoB.2 (by omega) (hb25.sl (row_strs _ _ _) (by omega) (by simp [maxLen])) rfl (by simp)).mono ?_
                  rintro e w26 ⟨s26, rfl, ho26⟩
                  go_wp2_with fail
                  try go_simp
                  refine hK _ _ trivial ?_
                  clear hK K
                  replace hoB := hoB.trans ho26
                  replace hown := hown.s ho26 hb1
                  refine tree_n rfl rfl _ rfl _ rfl ?_
                  try go_simp
                  refine tree_p rfl rfl rfl rfl _ rfl (by simp) (fun K hK => ?_)
                  apply Exists.intro
                  refine ⟨fun wq K' hK' => ?_, ?_⟩
                  · go_wp2_with fail
                    exact hK'
                  go_simp
                  refine hK _ ?_
                  clear hK K
                  refine tree_e0 (by kernel_rfl) rfl rfl (fun K hK => ?_)
                  have f0 := hown.frozen (q * 5)
                  obtain ⟨cq, rfl, hc⟩ := hown.cell_at (by decide) hql
                  have c0 : w26.cell? ⟨g, q * 5, none⟩ = some (.int .i64 l[q].at_) := hc 0 _ rfl
                  clear hc
                  go_wp2_with fail
                  try go_simp
                  refine hK _ _ trivial ?_
                  clear hK K
                  obtain ⟨l2, hown2, hlen2⟩ : ∃ x : List Ev, Own ((w26).setCell ⟨g, q * 5, none⟩ (.int .i64 s10)) w1.heap.size 60 (some ⟨g, 0, none⟩) c' x ∧ x.length = l.length := ⟨_, Own.set_ev0 hown hql s10, by rw [List.length_set]; skip⟩
                  have hoB2 := hoB.set hbw (p := ⟨g, q * 5, none⟩) (by simp only; omega) (.int .i64 s10)
                  have hql2 : q < l2.length := by omega
                  replace hlen2 := hide hlen2
                  obtain ⟨w29, hwn⟩ : ∃ x, x = (w26).setCell ⟨g, q * 5, none⟩ (.int .i64 s10) := ⟨_, rfl⟩
                  rw [← hwn] at hown2 hoB2 ⊢
                  clear hwn
                  refine tree_n rfl rfl _ rfl _ rfl ?_
                  try go_simp
                  refine tree_p rfl rfl rfl rfl _ rfl (by simp) (fun K hK => ?_)
                  apply Exists.intro
                  refine ⟨fun wq K' hK' => ?_, ?_⟩
                  · go_wp2_with fail
                    exact hK'
                  go_simp
                  refine hK _ ?_
                  clear hK K
                  refine tree_e0 (by kernel_rfl) rfl rfl (fun K hK => ?_)
                  have f1 := hown2.frozen (q * 5 + 1)
                  obtain ⟨cq, rfl, hc⟩ := hown2.cell_at (by decide) hql2
                  have c1 : w29.cell? ⟨g, q * 5 + 1, none⟩ = some (.int .i64 l2[q].kind) := hc 1 _ rfl
                  clear hc
                  go_wp2_with fail
                  try go_simp
                  refine hK _ _ trivial ?_
                  clear hK K
                  obtain ⟨l3, hown3, hlen3⟩ : ∃ x : List Ev, Own ((w29).setCell ⟨g, q * 5+ 1, none⟩ (.int .i64 s12)) w1.heap.size 60 (some ⟨g, 0, none⟩) c' x ∧ x.length = l.length := ⟨_, Own.set_ev1 hown2 hql2 s12, by rw [List.length_set]; exact hlen2.out⟩
                  have hoB3 := hoB2.set hbw (p := ⟨g, q * 5+ 1, none⟩) (by simp only; omega) (.int .i64 s12)
                  have hql3 : q < l3.length := by omega
                  replace hlen3 := hide hlen3
                  obtain ⟨w32, hwn⟩ : ∃ x, x = (w29).setCell ⟨g, q * 5+ 1, none⟩ (.int .i64 s12) := ⟨_, rfl⟩
                  rw [← hwn] at hown3 hoB3 ⊢
                  clear hwn
                  refine tree_n rfl rfl _ rfl _ rfl ?_
                  try go_simp
                  refine tree_p rfl rfl rfl rfl _ rfl (by simp) (fun K hK => ?_)
                  apply Exists.intro
                  refine ⟨fun wq K' hK' => ?_, ?_⟩
                  · go_wp2_with fail
                    exact hK'
                  go_simp
                  refine hK _ ?_
                  clear hK K
                  refine tree_e0 (by kernel_rfl) rfl rfl (fun K hK => ?_)
                  have f2 := hown3.frozen (q * 5 + 2)
                  obtain ⟨cq, rfl, hc⟩ := hown3.cell_at (by decide) hql3
                  have c2 : w32.cell? ⟨g, q * 5 + 2, none⟩ = some (.string l3[q].pr) := hc 2 _ rfl
                  clear hc
                  go_wp2_with fail
                  try go_simp
                  refine hK _ _ trivial ?_
                  clear hK K
                  obtain ⟨l4, hown4, hlen4⟩ : ∃ x : List Ev, Own ((w32).setCell ⟨g, q * 5+ 2, none⟩ (.string s19)) w1.heap.size 60 (some ⟨g, 0, none⟩) c' x ∧ x.length = l.length := ⟨_, Own.set_ev2 hown3 hql3 s19, by rw [List.length_set]; exact hlen3.out⟩
                  have hoB4 := hoB3.set hbw (p := ⟨g, q * 5+ 2, none⟩) (by simp only; omega) (.string s19)
                  have hql4 : q < l4.length := by omega
                  replace hlen4 := hide hlen4
                  obtain ⟨w35, hwn⟩ : ∃ x, x = (w32).setCell ⟨g, q * 5+ 2, none⟩ (.string s19) := ⟨_, rfl⟩
                  rw [← hwn] at hown4 hoB4 ⊢
                  clear hwn
                  refine tree_n rfl rfl _ rfl _ rfl ?_
                  try go_simp
                  refine tree_p rfl rfl rfl rfl _ rfl (by simp) (fun K hK => ?_)
                  apply Exists.intro
                  refine ⟨fun wq K' hK' => ?_, ?_⟩
                  · go_wp2_with fail
                    exact hK'
                  go_simp
                  refine hK _ ?_
                  clear hK K
                  refine tree_e0 (by kernel_rfl) rfl rfl (fun K hK => ?_)
                  have f3 := hown4.frozen (q * 5 + 3)
                  obtain ⟨cq, rfl, hc⟩ := hown4.cell_at (by decide) hql4
                  have c3 : w35.cell? ⟨g, q * 5 + 3, none⟩ = some (.string l4[q].job) := hc 3 _ rfl
                  clear hc
                  go_wp2_with fail
                  try go_simp
                  refine hK _ _ trivial ?_
                  clear hK K
                  refine tree_done ?_
                  obtain ⟨l5, hown5, hlen5⟩ : ∃ x : List Ev, Own ((w35).setCell ⟨g, q * 5+ 3, none⟩ (.string s26)) w1.heap.size 60 (some ⟨g, 0, none⟩) c' x ∧ x.length = l.length := ⟨_, Own.set_ev3 hown4 hql4 s26, by rw [List.length_set]; exact hlen4.out⟩
                  have hoB5 := hoB4.set hbw (p := ⟨g, q * 5+ 3, none⟩) (by simp only; omega) (.string s26)
                  have hql5 : q < l5.length := by omega
                  replace hlen5 := hide hlen5
                  obtain ⟨w38, hwn⟩ : ∃ x, x = (w35).setCell ⟨g, q * 5+ 3, none⟩ (.string s26) := ⟨_, rfl⟩
                  rw [← hwn] at hown5 hoB5 ⊢
                  clear hwn
                  rw [← hlen5.out]
                  have hl5 : l5.length ≤ 16 := by have := hlen5.out; omega
                  clear hlen5 hlen4 hlen3 hlen2 hown hown2 hown3 hown4 hoB hoB2 hoB3 hoB4
                  go_wp2_with fail
                  go_ret
                  exact ⟨l5, _, _, rfl, hown5.sl.mono (by omega), hl5, hown5.cap, hoB5.mono (by omega)⟩
              · refine tree_e rfl rfl (fun K hK => ?_)
                go_wp2_with fail
                try go_simp
                refine hK _ _ ((hown.pure (gr_alloc (World.grownBy.refl _ _) _))) ?_
                clear hK K
                obtain ⟨w25, hw25⟩ : ∃ x, x = (w9).alloc (.cells [.string l[q].job, .string ⟨#[74]⟩, .string ⟨#[106, 49]⟩].toArray 9) := ⟨_, rfl⟩
                have hg25 : (w9).grownBy w25 none := by rw [hw25]; exact gr_alloc (World.grownBy.refl _ _) _
                have hb25 : Box w25 (w9).heap.size 9 [.string l[q].job, .string ⟨#[74]⟩, .string ⟨#[106, 49]⟩] := by rw [hw25]; exact Box.new _ _ _
                rw [← hw25]
                clear hw25
                obtain ⟨x25, hx25⟩ : ∃ x, x = (w9).heap.size := ⟨_, rfl⟩
                rw [← hx25] at hb25 ⊢
                have hxl25 : (w9).heap.size ≤ x25 := by omega
                clear hx25
                have hbx25 : b < x25 := by have := hoB.lt; omega
                replace hoB := hoB.pure hg25
                replace hown := hown.pure hg25
                replace hb9 := hb9.pure hg25
                refine tree_alt ?_ ?_
                · refine tree_e rfl rfl (fun K hK => ?_)
                  go_wp2_with fail
                  refine (pick_any b _ _ _ _ [l[q].at_, -1, 0] w25 hoB.2 (by omega) (hb9.sl (row_ints _ _ _) (by omega) (by simp [maxLen])) rfl (by simp)).mono ?_
                  rintro e w10 ⟨s10, rfl, _, ho10⟩
                  go_wp2_with fail
                  try go_simp
                  refine hK _ _ ((hown.s ho10 hb1)) ?_
                  clear hK K
                  replace hoB := hoB.trans ho10
                  replace hown := hown.s ho10 hb1
                  replace hb25 := hb25.gr ho10.1 (fun e => by injection e; omega)
                  refine tree_alt ?_ ?_
                  · refine tree_e rfl rfl (fun K hK => ?_)
                    go_wp2_with fail
                    refine (odd_any b _ _ _ w10 hoB.2 (by omega) (by omega) (by omega) (by omega)).mono ?_
                    rintro e w12 ⟨s12, rfl, _, ho12⟩
                    go_wp2_with fail
                    try go_simp
                    refine hK _ _ ((hown.s ho12 hb1)) ?_
                    clear hK K
                    replace hoB := hoB.trans ho12
                    replace hown := hown.s ho12 hb1
                    replace hb25 := hb25.gr ho12.1 (fun e => by injection e; omega)
                    refine tree_e rfl rfl (fun K hK => ?_)
                    go_wp2_with fail
                    try go_simp
                    refine hK _ _ ((hown.pure (gr_alloc (World.grownBy.refl _ _) _))) ?_
                    clear hK K
                    obtain ⟨w18, hw18⟩ : ∃ x, x = (w12).alloc (.cells [.string l[q].pr, .string ⟨#[122, 122]⟩, .string ⟨#[]⟩].toArray 9) := ⟨_, rfl⟩
                    have hg18 : (w12).grownBy w18 none := by rw [hw18]; exact gr_alloc (World.grownBy.refl _ _) _
                    have hb18 : Box w18 (w12).heap.size 9 [.string l[q].pr, .string ⟨#[122, 122]⟩, .string ⟨#[]⟩] := by rw [hw18]; exact Box.new _ _ _
                    rw [← hw18]
                    clear hw18
                    obtain ⟨x18, hx18⟩ : ∃ x, x = (w12).heap.size := ⟨_, rfl⟩
                    rw [← hx18] at hb18 ⊢
                    have hxl18 : (w12).heap.size ≤ x18 := by omega
                    clear hx18
                    have hbx18 : b < x18 := by have := hoB.lt; omega
                    replace hoB := hoB.pure hg18
                    replace hown := hown.pure hg18
                    replace hb25 := hb25.pure hg18
                    refine tree_e rfl rfl (fun K hK => ?_)
                    go_wp2_with fail
                    refine (some_any b _ _ _ _ [l[q].pr, ⟨#[122, 122]⟩, ⟨#[]⟩] w18 hoB.2 (by omega) (hb18.sl (row_strs _ _ _) (by omega) (by simp [maxLen])) rfl (by simp)).mono ?_
                    rintro e w19 ⟨s19, rfl, ho19⟩
                    go_wp2_with fail
                    try go_simp
                    refine hK _ _ ((hown.s ho19 hb1)) ?_
                    clear hK K
                    replace hoB := hoB.trans ho19
                    replace hown := hown.s ho19 hb1
                    replace hb25 := hb25.gr ho19.1 (fun e => by injection e; omega)
                    refine tree_e0 (by kernel_rfl) rfl rfl (fun K hK => ?_)
                    go_wp2_with fail
                    refine (some_any b _ _ _ _ [l[q].job, ⟨#[74]⟩, ⟨#[106, 49]⟩] w19 hoB.2 (by omega) (hb25.sl (row_strs _ _ _) (by omega) (by simp [maxLen])) rfl (by simp)).mono ?_
                    rintro e w26 ⟨s26, rfl, ho26⟩
                    go_wp2_with fail
                    try go_simp
                    refine hK _ _ trivial ?_
                    clear hK K
                    replace hoB := hoB.trans ho26
                    replace hown := hown.s ho26 hb1
                    refine tree_n rfl rfl _ rfl _ rfl ?_
                    try go_simp
                    refine tree_p rfl rfl rfl rfl _ rfl (by simp) (fun K hK => ?_)
                    apply Exists.intro
                    refine ⟨fun wq K' hK' => ?_, ?_⟩
                    · go_wp2_with fail
                      exact hK'
                    go_simp
                    refine hK _ ?_
                    clear hK K
                    refine tree_e0 (by kernel_rfl) rfl rfl (fun K hK => ?_)
                    have f0 := hown.frozen (q * 5)
                    obtain ⟨cq, rfl, hc⟩ := hown.cell_at (by decide) hql
                    have c0 : w26.cell? ⟨g, q * 5, none⟩ = some (.int .i64 l[q].at_) := hc 0 _ rfl
                    clear hc
                    go_wp2_with fail
                    try go_simp
                    refine hK _ _ trivial ?_
                    clear hK K
                    obtain ⟨l2, hown2, hlen2⟩ : ∃ x : List Ev, Own ((w26).setCell ⟨g, q * 5, none⟩ (.int .i64 s10)) w1.heap.size 60 (some ⟨g, 0, none⟩) c' x ∧ x.length = l.length := ⟨_, Own.set_ev0 hown hql s10, by rw [List.length_set]; skip⟩
                    have hoB2 := hoB.set hbw (p := ⟨g, q * 5, none⟩) (by simp only; omega) (.int .i64 s10)
                    have hql2 : q < l2.length := by omega
                    replace hlen2 := hide hlen2
                    obtain ⟨w29, hwn⟩ : ∃ x, x = (w26).setCell ⟨g, q * 5, none⟩ (.int .i64 s10) := ⟨_, rfl⟩
                    rw [← hwn] at hown2 hoB2 ⊢
                    clear hwn
                    refine tree_n rfl rfl _ rfl _ rfl ?_
                    try go_simp
                    refine tree_p rfl rfl rfl rfl _ rfl (by simp) (fun K hK => ?_)
                    apply Exists.intro
                    refine ⟨fun wq K' hK' => ?_, ?_⟩
                    · go_wp2_with fail
                      exact hK'
                    go_simp
                    refine hK _ ?_
                    clear hK K
                    refine tree_e0 (by kernel_rfl) rfl rfl (fun K hK => ?_)
                    have f1 := hown2.frozen (q * 5 + 1)
                    obtain ⟨cq, rfl, hc⟩ := hown2.cell_at (by decide) hql2
                    have c1 : w29.cell? ⟨g, q * 5 + 1, none⟩ = some (.int .i64 l2[q].kind) := hc 1 _ rfl
                    clear hc
                    go_wp2_with fail
                    try go_simp
                    refine hK _ _ trivial ?_
                    clear hK K
                    obtain ⟨l3, hown3, hlen3⟩ : ∃ x : List Ev, Own ((w29).setCell ⟨g, q * 5+ 1, none⟩ (.int .i64 s12)) w1.heap.size 60 (some ⟨g, 0, none⟩) c' x ∧ x.length = l.length := ⟨_, Own.set_ev1 hown2 hql2 s12, by rw [List.length_set]; exact hlen2.out⟩
                    have hoB3 := hoB2.set hbw (p := ⟨g, q * 5+ 1, none⟩) (by simp only; omega) (.int .i64 s12)
                    have hql3 : q < l3.length := by omega
                    replace hlen3 := hide hlen3
                    obtain ⟨w32, hwn⟩ : ∃ x, x = (w29).setCell ⟨g, q * 5+ 1, none⟩ (.int .i64 s12) := ⟨_, rfl⟩
                    rw [← hwn] at hown3 hoB3 ⊢
                    clear hwn
                    refine tree_n rfl rfl _ rfl _ rfl ?_
                    try go_simp
                    refine tree_p rfl rfl rfl rfl _ rfl (by simp) (fun K hK => ?_)
                    apply Exists.intro
                    refine ⟨fun wq K' hK' => ?_, ?_⟩
                    · go_wp2_with fail
                      exact hK'
                    go_simp
                    refine hK _ ?_
                    clear hK K
                    refine tree_e0 (by kernel_rfl) rfl rfl (fun K hK => ?_)
                    have f2 := hown3.frozen (q * 5 + 2)
                    obtain ⟨cq, rfl, hc⟩ := hown3.cell_at (by decide) hql3
                    have c2 : w32.cell? ⟨g, q * 5 + 2, none⟩ = some (.string l3[q].pr) := hc 2 _ rfl
                    clear hc
                    go_wp2_with fail
                    try go_simp
                    refine hK _ _ trivial ?_
                    clear hK K
                    obtain ⟨l4, hown4, hlen4⟩ : ∃ x : List Ev, Own ((w32).setCell ⟨g, q * 5+ 2, none⟩ (.string s19)) w1.heap.size 60 (some ⟨g, 0, none⟩) c' x ∧ x.length = l.length := ⟨_, Own.set_ev2 hown3 hql3 s19, by rw [List.length_set]; exact hlen3.out⟩
                    have hoB4 := hoB3.set hbw (p := ⟨g, q * 5+ 2, none⟩) (by simp only; omega) (.string s19)
                    have hql4 : q < l4.length := by omega
                    replace hlen4 := hide hlen4
                    obtain ⟨w35, hwn⟩ : ∃ x, x = (w32).setCell ⟨g, q * 5+ 2, none⟩ (.string s19) := ⟨_, rfl⟩
                    rw [← hwn] at hown4 hoB4 ⊢
                    clear hwn
                    refine tree_n rfl rfl _ rfl _ rfl ?_
                    try go_simp
                    refine tree_p rfl rfl rfl rfl _ rfl (by simp) (fun K hK => ?_)
                    apply Exists.intro
                    refine ⟨fun wq K' hK' => ?_, ?_⟩
                    · go_wp2_with fail
                      exact hK'
                    go_simp
                    refine hK _ ?_
                    clear hK K
                    refine tree_e0 (by kernel_rfl) rfl rfl (fun K hK => ?_)
                    have f3 := hown4.frozen (q * 5 + 3)
                    obtain ⟨cq, rfl, hc⟩ := hown4.cell_at (by decide) hql4
                    have c3 : w35.cell? ⟨g, q * 5 + 3, none⟩ = some (.string l4[q].job) := hc 3 _ rfl
                    clear hc
                    go_wp2_with fail
                    try go_simp
                    refine hK _ _ trivial ?_
                    clear hK K
                    refine tree_done ?_
                    obtain ⟨l5, hown5, hlen5⟩ : ∃ x : List Ev, Own ((w35).setCell ⟨g, q * 5+ 3, none⟩ (.string s26)) w1.heap.size 60 (some ⟨g, 0, none⟩) c' x ∧ x.length = l.length := ⟨_, Own.set_ev3 hown4 hql4 s26, by rw [List.length_set]; exact hlen4.out⟩
                    have hoB5 := hoB4.set hbw (p := ⟨g, q * 5+ 3, none⟩) (by simp only; omega) (.string s26)
                    have hql5 : q < l5.length := by omega
                    replace hlen5 := hide hlen5
                    obtain ⟨w38, hwn⟩ : ∃ x, x = (w35).setCell ⟨g, q * 5+ 3, none⟩ (.string s26) := ⟨_, rfl⟩
                    rw [← hwn] at hown5 hoB5 ⊢
                    clear hwn
                    rw [← hlen5.out]
                    have hl5 : l5.length ≤ 16 := by have := hlen5.out; omega
                    clear hlen5 hlen4 hlen3 hlen2 hown hown2 hown3 hown4 hoB hoB2 hoB3 hoB4
                    go_wp2_with fail
                    go_ret
                    exact ⟨l5, _, _, rfl, hown5.sl.mono (by omega), hl5, hown5.cap, hoB5.mono (by omega)⟩
                  · refine tree_e rfl rfl (fun K hK => ?_)
                    go_wp2_with fail
                    try go_simp
                    refine hK _ _ ((hown.pure (gr_alloc (World.grownBy.refl _ _) _))) ?_
                    clear hK K
                    obtain ⟨w18, hw18⟩ : ∃ x, x = (w10).alloc (.cells [.string l[q].pr, .string ⟨#[122, 122]⟩, .string ⟨#[]⟩].toArray 9) := ⟨_, rfl⟩
                    have hg18 : (w10).grownBy w18 none := by rw [hw18]; exact gr_alloc (World.grownBy.refl _ _) _
                    have hb18 : Box w18 (w10).heap.size 9 [.string l[q].pr, .string ⟨#[122, 122]⟩, .string ⟨#[]⟩] := by rw [hw18]; exact Box.new _ _ _
                    rw [← hw18]
                    clear hw18
                    obtain ⟨x18, hx18⟩ : ∃ x, x = (w10).heap.size := ⟨_, rfl⟩
                    rw [← hx18] at hb18 ⊢
                    have hxl18 : (w10).heap.size ≤ x18 := by omega
                    clear hx18
                    have hbx18 : b < x18 := by have := hoB.lt; omega
                    replace hoB := hoB.pure hg18
                    replace hown := hown.pure hg18
                    replace hb25 := hb25.pure hg18
                    refine tree_e rfl rfl (fun K hK => ?_)
                    go_wp2_with fail
                    refine (odd_any b _ _ _ w18 hoB.2 (by omega) (by omega) (by omega) (by omega)).mono ?_
                    rintro e w12 ⟨s12, rfl, _, ho12⟩
                    go_wp2_with fail
                    try go_simp
                    refine hK _ _ ((hown.s ho12 hb1)) ?_
                    clear hK K
                    replace hoB := hoB.trans ho12
                    replace hown := hown.s ho12 hb1
                    replace hb18 := hb18.gr ho12.1 (fun e => by injection e; omega)
                    replace hb25 := hb25.gr ho12.1 (fun e => by injection e; omega)
                    refine tree_e rfl rfl (fun K hK => ?_)
                    go_wp2_with fail
                    refine (some_any b _ _ _ _ [l[q].pr, ⟨#[122, 122]⟩, ⟨#[]⟩] w12 hoB.2 (by omega) (hb18.sl (row_strs _ _ _) (by omega) (by simp [maxLen])) rfl (by simp)).mono ?_
                    rintro e w19 ⟨s19, rfl, ho19⟩
                    go_wp2_with fail
                    try go_simp
                    refine hK _ _ ((hown.s ho19 hb1)) ?_
                    clear hK K
                    replace hoB := hoB.trans ho19
                    replace hown := hown.s ho19 hb1
                    replace hb25 := hb25.gr ho19.1 (fun e => by injection e; omega)
                    refine tree_e0 (by kernel_rfl) rfl rfl (fun K hK => ?_)
                    go_wp2_with fail
                    refine (some_any b _ _ _ _ [l[q].job, ⟨#[74]⟩, ⟨#[106, 49]⟩] w19 hoB.2 (by omega) (hb25.sl (row_strs _ _ _) (by omega) (by simp [maxLen])) rfl (by simp)).mono ?_
                    rintro e w26 ⟨s26, rfl, ho26⟩
                    go_wp2_with fail
                    try go_simp
                    refine hK _ _ trivial ?_
                    clear hK K
                    replace hoB := hoB.trans ho26
                    replace hown := hown.s ho26 hb1
                    refine tree_n rfl rfl _ rfl _ rfl ?_
                    try go_simp
                    refine tree_p rfl rfl rfl rfl _ rfl (by simp) (fun K hK => ?_)
                    apply Exists.intro
                    refine ⟨fun wq K' hK' => ?_, ?_⟩
                    · go_wp2_with fail
                      exact hK'
                    go_simp
                    refine hK _ ?_
                    clear hK K
                    refine tree_e0 (by kernel_rfl) rfl rfl (fun K hK => ?_)
                    have f0 := hown.frozen (q * 5)
                    obtain ⟨cq, rfl, hc⟩ := hown.cell_at (by decide) hql
                    have c0 : w26.cell? ⟨g, q * 5, none⟩ = some (.int .i64 l[q].at_) := hc 0 _ rfl
                    clear hc
                    go_wp2_with fail
                    try go_simp
                    refine hK _ _ trivial ?_
                    clear hK K
                    obtain ⟨l2, hown2, hlen2⟩ : ∃ x : List Ev, Own ((w26).setCell ⟨g, q * 5, none⟩ (.int .i64 s10)) w1.heap.size 60 (some ⟨g, 0, none⟩) c' x ∧ x.length = l.length := ⟨_, Own.set_ev0 hown hql s10, by rw [List.length_set]; skip⟩
                    have hoB2 := hoB.set hbw (p := ⟨g, q * 5, none⟩) (by simp only; omega) (.int .i64 s10)
                    have hql2 : q < l2.length := by omega
                    replace hlen2 := hide hlen2
                    obtain ⟨w29, hwn⟩ : ∃ x, x = (w26).setCell ⟨g, q * 5, none⟩ (.int .i64 s10) := ⟨_, rfl⟩
                    rw [← hwn] at hown2 hoB2 ⊢
                    clear hwn
                    refine tree_n rfl rfl _ rfl _ rfl ?_
                    try go_simp
                    refine tree_p rfl rfl rfl rfl _ rfl (by simp) (fun K hK => ?_)
                    apply Exists.intro
                    refine ⟨fun wq K' hK' => ?_, ?_⟩
                    · go_wp2_with fail
                      exact hK'
                    go_simp
                    refine hK _ ?_
                    clear hK K
                    refine tree_e0 (by kernel_rfl) rfl rfl (fun K hK => ?_)
                    have f1 := hown2.frozen (q * 5 + 1)
                    obtain ⟨cq, rfl, hc⟩ := hown2.cell_at (by decide) hql2
                    have c1 : w29.cell? ⟨g, q * 5 + 1, none⟩ = some (.int .i64 l2[q].kind) := hc 1 _ rfl
                    clear hc
                    go_wp2_with fail
                    try go_simp
                    refine hK _ _ trivial ?_
                    clear hK K
                    obtain ⟨l3, hown3, hlen3⟩ : ∃ x : List Ev, Own ((w29).setCell ⟨g, q * 5+ 1, none⟩ (.int .i64 s12)) w1.heap.size 60 (some ⟨g, 0, none⟩) c' x ∧ x.length = l.length := ⟨_, Own.set_ev1 hown2 hql2 s12, by rw [List.length_set]; exact hlen2.out⟩
                    have hoB3 := hoB2.set hbw (p := ⟨g, q * 5+ 1, none⟩) (by simp only; omega) (.int .i64 s12)
                    have hql3 : q < l3.length := by omega
                    replace hlen3 := hide hlen3
                    obtain ⟨w32, hwn⟩ : ∃ x, x = (w29).setCell ⟨g, q * 5+ 1, none⟩ (.int .i64 s12) := ⟨_, rfl⟩
                    rw [← hwn] at hown3 hoB3 ⊢
                    clear hwn
                    refine tree_n rfl rfl _ rfl _ rfl ?_
                    try go_simp
                    refine tree_p rfl rfl rfl rfl _ rfl (by simp) (fun K hK => ?_)
                    apply Exists.intro
                    refine ⟨fun wq K' hK' => ?_, ?_⟩
                    · go_wp2_with fail
                      exact hK'
                    go_simp
                    refine hK _ ?_
                    clear hK K
                    refine tree_e0 (by kernel_rfl) rfl rfl (fun K hK => ?_)
                    have f2 := hown3.frozen (q * 5 + 2)
                    obtain ⟨cq, rfl, hc⟩ := hown3.cell_at (by decide) hql3
                    have c2 : w32.cell? ⟨g, q * 5 + 2, none⟩ = some (.string l3[q].pr) := hc 2 _ rfl
                    clear hc
                    go_wp2_with fail
                    try go_simp
                    refine hK _ _ trivial ?_
                    clear hK K
                    obtain ⟨l4, hown4, hlen4⟩ : ∃ x : List Ev, Own ((w32).setCell ⟨g, q * 5+ 2, none⟩ (.string s19)) w1.heap.size 60 (some ⟨g, 0, none⟩) c' x ∧ x.length = l.length := ⟨_, Own.set_ev2 hown3 hql3 s19, by rw [List.length_set]; exact hlen3.out⟩
                    have hoB4 := hoB3.set hbw (p := ⟨g, q * 5+ 2, none⟩) (by simp only; omega) (.string s19)
                    have hql4 : q < l4.length := by omega
                    replace hlen4 := hide hlen4
                    obtain ⟨w35, hwn⟩ : ∃ x, x = (w32).setCell ⟨g, q * 5+ 2, none⟩ (.string s19) := ⟨_, rfl⟩
                    rw [← hwn] at hown4 hoB4 ⊢
                    clear hwn
                    refine tree_n rfl rfl _ rfl _ rfl ?_
                    try go_simp
                    refine tree_p rfl rfl rfl rfl _ rfl (by simp) (fun K hK => ?_)
                    apply Exists.intro
                    refine ⟨fun wq K' hK' => ?_, ?_⟩
                    · go_wp2_with fail
                      exact hK'
                    go_simp
                    refine hK _ ?_
                    clear hK K
                    refine tree_e0 (by kernel_rfl) rfl rfl (fun K hK => ?_)
                    have f3 := hown4.frozen (q * 5 + 3)
                    obtain ⟨cq, rfl, hc⟩ := hown4.cell_at (by decide) hql4
                    have c3 : w35.cell? ⟨g, q * 5 + 3, none⟩ = some (.string l4[q].job) := hc 3 _ rfl
                    clear hc
                    go_wp2_with fail
                    try go_simp
                    refine hK _ _ trivial ?_
                    clear hK K
                    refine tree_done ?_
                    obtain ⟨l5, hown5, hlen5⟩ : ∃ x : List Ev, Own ((w35).setCell ⟨g, q * 5+ 3, none⟩ (.string s26)) w1.heap.size 60 (some ⟨g, 0, none⟩) c' x ∧ x.length = l.length := ⟨_, Own.set_ev3 hown4 hql4 s26, by rw [List.length_set]; exact hlen4.out⟩
                    have hoB5 := hoB4.set hbw (p := ⟨g, q * 5+ 3, none⟩) (by simp only; omega) (.string s26)
                    have hql5 : q < l5.length := by omega
                    replace hlen5 := hide hlen5
                    obtain ⟨w38, hwn⟩ : ∃ x, x = (w35).setCell ⟨g, q * 5+ 3, none⟩ (.string s26) := ⟨_, rfl⟩
                    rw [← hwn] at hown5 hoB5 ⊢
                    clear hwn
                    rw [← hlen5.out]
                    have hl5 : l5.length ≤ 16 := by have := hlen5.out; omega
                    clear hlen5 hlen4 hlen3 hlen2 hown hown2 hown3 hown4 hoB hoB2 hoB3 hoB4
                    go_wp2_with fail
                    go_ret
                    exact ⟨l5, _, _, rfl, hown5.sl.mono (by omega), hl5, hown5.cap, hoB5.mono (by omega)⟩
                · refine tree_e rfl rfl (fun K hK => ?_)
                  go_wp2_with fail
                  try go_simp
                  refine hK _ _ ((hown.pure (gr_alloc (World.grownBy.refl _ _) _))) ?_
                  clear hK K
                  obtain ⟨w18, hw18⟩ : ∃ x, x = (w25).alloc (.cells [.string l[q].pr, .string ⟨#[122, 122]⟩, .string ⟨#[]⟩].toArray 9) := ⟨_, rfl⟩
                  have hg18 : (w25).grownBy w18 none := by rw [hw18]; exact gr_alloc (World.grownBy.refl _ _) _
                  have hb18 : Box w18 (w25).heap.size 9 [.string l[q].pr, .string ⟨#[122, 122]⟩, .string ⟨#[]⟩] := by rw [hw18]; exact Box.new _ _ _
                  rw [← hw18]
                  clear hw18
                  obtain ⟨x18, hx18⟩ : ∃ x, x = (w25).heap.size := ⟨_, rfl⟩
                  rw [← hx18] at hb18 ⊢
                  have hxl18 : (w25).heap.size ≤ x18 := by omega
                  clear hx18
                  have hbx18 : b < x18 := by have := hoB.lt; omega
                  replace hoB := hoB.pure hg18
                  replace hown := hown.pure hg18
                  replace hb9 := hb9.pure hg18
                  replace hb25 := hb25.pure hg18
                  refine tree_e rfl rfl (fun K hK => ?_)
                  go_wp2_with fail
                  refine (pick_any b _ _ _ _ [l[q].at_, -1, 0] w18 hoB.2 (by omega) (hb9.sl (row_ints _ _ _) (by omega) (by simp [maxLen])) rfl (by simp)).mono ?_
                  rintro e w10 ⟨s10, rfl, _, ho10⟩
                  go_wp2_with fail
                  try go_simp
                  refine hK _ _ ((hown.s ho10 hb1)) ?_
                  clear hK K
                  replace hoB := hoB.trans ho10
                  replace hown := hown.s ho10 hb1
                  replace hb18 := hb18.gr ho10.1 (fun e => by injection e; omega)
                  replace hb25 := hb25.gr ho10.1 (fun e => by injection e; omega)
                  refine tree_e rfl rfl (fun K hK => ?_)
                  go_wp2_with fail
                  refine (odd_any b _ _ _ w10 hoB.2 (by omega) (by omega) (by omega) (by omega)).mono ?_
                  rintro e w12 ⟨s12, rfl, _, ho12⟩
                  go_wp2_with fail
                  try go_simp
                  refine hK _ _ ((hown.s ho12 hb1)) ?_
                  clear hK K
                  replace hoB := hoB.trans ho12
                  replace hown := hown.s ho12 hb1
                  replace hb18 := hb18.gr ho12.1 (fun e => by injection e; omega)
                  replace hb25 := hb25.gr ho12.1 (fun e => by injection e; omega)
                  refine tree_e rfl rfl (fun K hK => ?_)
                  go_wp2_with fail
                  refine (some_any b _ _ _ _ [l[q].pr, ⟨#[122, 122]⟩, ⟨#[]⟩] w12 hoB.2 (by omega) (hb18.sl (row_strs _ _ _) (by omega) (by simp [maxLen])) rfl (by simp)).mono ?_
                  rintro e w19 ⟨s19, rfl, ho19⟩
                  go_wp2_with fail
                  try go_simp
                  refine hK _ _ ((hown.s ho19 hb1)) ?_
                  clear hK K
                  replace hoB := hoB.trans ho19
                  replace hown := hown.s ho19 hb1
                  replace hb25 := hb25.gr ho19.1 (fun e => by injection e; omega)
                  refine tree_e0 (by kernel_rfl) rfl rfl (fun K hK => ?_)
                  go_wp2_with fail
                  refine (some_any b _ _ _ _ [l[q].job, ⟨#[74]⟩, ⟨#[106, 49]⟩] w19 hoB.2 (by omega) (hb25.sl (row_strs _ _ _) (by omega) (by simp [maxLen])) rfl (by simp)).mono ?_
                  rintro e w26 ⟨s26, rfl, ho26⟩
                  go_wp2_with fail
                  try go_simp
                  refine hK _ _ trivial ?_
                  clear hK K
                  replace hoB := hoB.trans ho26
                  replace hown := hown.s ho26 hb1
                  refine tree_n rfl rfl _ rfl _ rfl ?_
                  try go_simp
                  refine tree_p rfl rfl rfl rfl _ rfl (by simp) (fun K hK => ?_)
                  apply Exists.intro
                  refine ⟨fun wq K' hK' => ?_, ?_⟩
                  · go_wp2_with fail
                    exact hK'
                  go_simp
                  refine hK _ ?_
                  clear hK K
                  refine tree_e0 (by kernel_rfl) rfl rfl (fun K hK => ?_)
                  have f0 := hown.frozen (q * 5)
                  obtain ⟨cq, rfl, hc⟩ := hown.cell_at (by decide) hql
                  have c0 : w26.cell? ⟨g, q * 5, none⟩ = some (.int .i64 l[q].at_) := hc 0 _ rfl
                  clear hc
                  go_wp2_with fail
                  try go_simp
                  refine hK _ _ trivial ?_
                  clear hK K
                  obtain ⟨l2, hown2, hlen2⟩ : ∃ x : List Ev, Own ((w26).setCell ⟨g, q * 5, none⟩ (.int .i64 s10)) w1.heap.size 60 (some ⟨g, 0, none⟩) c' x ∧ x.length = l.length := ⟨_, Own.set_ev0 hown hql s10, by rw [List.length_set]; skip⟩
                  have hoB2 := hoB.set hbw (p := ⟨g, q * 5, none⟩) (by simp only; omega) (.int .i64 s10)
                  have hql2 : q < l2.length := by omega
                  replace hlen2 := hide hlen2
                  obtain ⟨w29, hwn⟩ : ∃ x, x = (w26).setCell ⟨g, q * 5, none⟩ (.int .i64 s10) := ⟨_, rfl⟩
                  rw [← hwn] at hown2 hoB2 ⊢
                  clear hwn
                  refine tree_n rfl rfl _ rfl _ rfl ?_
                  try go_simp
                  refine tree_p rfl rfl rfl rfl _ rfl (by simp) (fun K hK => ?_)
                  apply Exists.intro
                  refine ⟨fun wq K' hK' => ?_, ?_⟩
                  · go_wp2_with fail
                    exact hK'
                  go_simp
                  refine hK _ ?_
                  clear hK K
                  refine tree_e0 (by kernel_rfl) rfl rfl (fun K hK => ?_)
                  have f1 := hown2.frozen (q * 5 + 1)
                  obtain ⟨cq, rfl, hc⟩ := hown2.cell_at (by decide) hql2
                  have c1 : w29.cell? ⟨g, q * 5 + 1, none⟩ = some (.int .i64 l2[q].kind) := hc 1 _ rfl
                  clear hc
                  go_wp2_with fail
                  try go_simp
                  refine hK _ _ trivial ?_
                  clear hK K
                  obtain ⟨l3, hown3, hlen3⟩ : ∃ x : List Ev, Own ((w29).setCell ⟨g, q * 5+ 1, none⟩ (.int .i64 s12)) w1.heap.size 60 (some ⟨g, 0, none⟩) c' x ∧ x.length = l.length := ⟨_, Own.set_ev1 hown2 hql2 s12, by rw [List.length_set]; exact hlen2.out⟩
                  have hoB3 := hoB2.set hbw (p := ⟨g, q * 5+ 1, none⟩) (by simp only; omega) (.int .i64 s12)
                  have hql3 : q < l3.length := by omega
                  replace hlen3 := hide hlen3
                  obtain ⟨w32, hwn⟩ : ∃ x, x = (w29).setCell ⟨g, q * 5+ 1, none⟩ (.int .i64 s12) := ⟨_, rfl⟩
                  rw [← hwn] at hown3 hoB3 ⊢
                  clear hwn
                  refine tree_n rfl rfl _ rfl _ rfl ?_
                  try go_simp
                  refine tree_p rfl rfl rfl rfl _ rfl (by simp) (fun K hK => ?_)
                  apply Exists.intro
                  refine ⟨fun wq K' hK' => ?_, ?_⟩
                  · go_wp2_with fail
                    exact hK'
                  go_simp
                  refine hK _ ?_
                  clear hK K
                  refine tree_e0 (by kernel_rfl) rfl rfl (fun K hK => ?_)
                  have f2 := hown3.frozen (q * 5 + 2)
                  obtain ⟨cq, rfl, hc⟩ := hown3.cell_at (by decide) hql3
                  have c2 : w32.cell? ⟨g, q * 5 + 2, none⟩ = some (.string l3[q].pr) := hc 2 _ rfl
                  clear hc
                  go_wp2_with fail
                  try go_simp
                  refine hK _ _ trivial ?_
                  clear hK K
                  obtain ⟨l4, hown4, hlen4⟩ : ∃ x : List Ev, Own ((w32).setCell ⟨g, q * 5+ 2, none⟩ (.string s19)) w1.heap.size 60 (some ⟨g, 0, none⟩) c' x ∧ x.length = l.length := ⟨_, Own.set_ev2 hown3 hql3 s19, by rw [List.length_set]; exact hlen3.out⟩
                  have hoB4 := hoB3.set hbw (p := ⟨g, q * 5+ 2, none⟩) (by simp only; omega) (.string s19)
                  have hql4 : q < l4.length := by omega
                  replace hlen4 := hide hlen4
                  obtain ⟨w35, hwn⟩ : ∃ x, x = (w32).setCell ⟨g, q * 5+ 2, none⟩ (.string s19) := ⟨_, rfl⟩
                  rw [← hwn] at hown4 hoB4 ⊢
                  clear hwn
                  refine tree_n rfl rfl _ rfl _ rfl ?_
                  try go_simp
                  refine tree_p rfl rfl rfl rfl _ rfl (by simp) (fun K hK => ?_)
                  apply Exists.intro
                  refine ⟨fun wq K' hK' => ?_, ?_⟩
                  · go_wp2_with fail
                    exact hK'
                  go_simp
                  refine hK _ ?_
                  clear hK K
                  refine tree_e0 (by kernel_rfl) rfl rfl (fun K hK => ?_)
                  have f3 := hown4.frozen (q * 5 + 3)
                  obtain ⟨cq, rfl, hc⟩ := hown4.cell_at (by decide) hql4
                  have c3 : w35.cell? ⟨g, q * 5 + 3, none⟩ = some (.string l4[q].job) := hc 3 _ rfl
                  clear hc
                  go_wp2_with fail
                  try go_simp
                  refine hK _ _ trivial ?_
                  clear hK K
                  refine tree_done ?_
                  obtain ⟨l5, hown5, hlen5⟩ : ∃ x : List Ev, Own ((w35).setCell ⟨g, q * 5+ 3, none⟩ (.string s26)) w1.heap.size 60 (some ⟨g, 0, none⟩) c' x ∧ x.length = l.length := ⟨_, Own.set_ev3 hown4 hql4 s26, by rw [List.length_set]; exact hlen4.out⟩
                  have hoB5 := hoB4.set hbw (p := ⟨g, q * 5+ 3, none⟩) (by simp only; omega) (.string s26)
                  have hql5 : q < l5.length := by omega
                  replace hlen5 := hide hlen5
                  obtain ⟨w38, hwn⟩ : ∃ x, x = (w35).setCell ⟨g, q * 5+ 3, none⟩ (.string s26) := ⟨_, rfl⟩
                  rw [← hwn] at hown5 hoB5 ⊢
                  clear hwn
                  rw [← hlen5.out]
                  have hl5 : l5.length ≤ 16 := by have := hlen5.out; omega
                  clear hlen5 hlen4 hlen3 hlen2 hown hown2 hown3 hown4 hoB hoB2 hoB3 hoB4
                  go_wp2_with fail
                  go_ret
                  exact ⟨l5, _, _, rfl, hown5.sl.mono (by omega), hl5, hown5.cap, hoB5.mono (by omega)⟩
          · refine tree_alt ?_ ?_
            · refine tree_e rfl rfl (fun K hK => ?_)
              go_wp2_with fail
              try go_simp
              refine hK _ _ ((hown.pure (gr_alloc (World.grownBy.refl _ _) _))) ?_
              clear hK K
              obtain ⟨w18, hw18⟩ : ∃ x, x = (W1).alloc (.cells [.string l[q].pr, .string ⟨#[122, 122]⟩, .string ⟨#[]⟩].toArray 9) := ⟨_, rfl⟩
              have hg18 : (W1).grownBy w18 none := by rw [hw18]; exact gr_alloc (World.grownBy.refl _ _) _
              have hb18 : Box w18 (W1).heap.size 9 [.string l[q].pr, .string ⟨#[122, 122]⟩, .string ⟨#[]⟩] := by rw [hw18]; exact Box.new _ _ _
              rw [← hw18]
              clear hw18
              obtain ⟨x18, hx18⟩ : ∃ x, x = (W1).heap.size := ⟨_, rfl⟩
              rw [← hx18] at hb18 ⊢
              have hxl18 : (W1).heap.size ≤ x18 := by omega
              clear hx18
              have hbx18 : b < x18 := by have := hoB.lt; omega
              replace hoB := hoB.pure hg18
              replace hown := hown.pure hg18
              refine tree_alt ?_ ?_
              · refine tree_e rfl rfl (fun K hK => ?_)
                go_wp2_with fail
                try go_simp
                refine hK _ _ ((hown.pure (gr_alloc (World.grownBy.refl _ _) _))) ?_
                clear hK K
                obtain ⟨w9, hw9⟩ : ∃ x, x = (w18).alloc (.cells [.int .i64 l[q].at_, .int .i64 (-1), .int .i64 0].toArray 3) := ⟨_, rfl⟩
                have hg9 : (w18).grownBy w9 none := by rw [hw9]; exact gr_alloc (World.grownBy.refl _ _) _
                have hb9 : Box w9 (w18).heap.size 3 [.int .i64 l[q].at_, .int .i64 (-1), .int .i64 0] := by rw [hw9]; exact Box.new _ _ _
                rw [← hw9]
                clear hw9
                obtain ⟨x9, hx9⟩ : ∃ x, x = (w18).heap.size := ⟨_, rfl⟩
                rw [← hx9] at hb9 ⊢
                have hxl9 : (w18).heap.size ≤ x9 := by omega
                clear hx9
                have hbx9 : b < x9 := by have := hoB.lt; omega
                replace hoB := hoB.pure hg9
                replace hown := hown.pure hg9
                replace hb18 := hb18.pure hg9
                refine tree_alt ?_ ?_
                · refine tree_e rfl rfl (fun K hK => ?_)
                  go_wp2_with fail
                  refine (pick_any b _ _ _ _ [l[q].at_, -1, 0] w9 hoB.2 (by omega) (hb9.sl (row_ints _ _ _) (by omega) (by simp [maxLen])) rfl (by simp)).mono ?_
                  rintro e w10 ⟨s10, rfl, _, ho10⟩
                  go_wp2_with fail
                  try go_simp
                  refine hK _ _ ((hown.s ho10 hb1)) ?_
                  clear hK K
                  replace hoB := hoB.trans ho10
                  replace hown := hown.s ho10 hb1
                  replace hb18 := hb18.gr ho10.1 (fun e => by injection e; omega)
                  refine tree_alt ?_ ?_
                  · refine tree_e rfl rfl (fun K hK => ?_)
                    go_wp2_with fail
                    refine (odd_any b _ _ _ w10 hoB.2 (by omega) (by omega) (by omega) (by omega)).mono ?_
                    rintro e w12 ⟨s12, rfl, _, ho12⟩
                    go_wp2_with fail
                    try go_simp
                    refine hK _ _ ((hown.s ho12 hb1)) ?_
                    clear hK K
                    replace hoB := hoB.trans ho12
                    replace hown := hown.s ho12 hb1
                    replace hb18 := hb18.gr ho12.1 (fun e => by injection e; omega)
                    refine tree_alt ?_ ?_
                    · refine tree_e rfl rfl (fun K hK => ?_)
                      go_wp2_with fail
                      refine (some_any b _ _ _ _ [l[q].pr, ⟨#[122, 122]⟩, ⟨#[]⟩] w12 hoB.2 (by omega) (hb18.sl (row_strs _ _ _) (by omega) (by simp [maxLen])) rfl (by simp)).mono ?_
                      rintro e w19 ⟨s19, rfl, ho19⟩
                      go_wp2_with fail
                      try go_simp
                      refine hK _ _ ((hown.s ho19 hb1)) ?_
                      clear hK K
                      replace hoB := hoB.trans ho19
                      replace hown := hown.s ho19 hb1
                      refine tree_e rfl rfl (fun K hK => ?_)
                      go_wp2_with fail
                      try go_simp
                      refine hK _ _ ((hown.pure (gr_alloc (World.grownBy.refl _ _) _))) ?_
                      clear hK K
                      obtain ⟨w25, hw25⟩ : ∃ x, x = (w19).alloc (.cells [.string l[q].job, .string ⟨#[74]⟩, .string ⟨#[106, 49]⟩].toArray 9) := ⟨_, rfl⟩
                      have hg25 : (w19).grownBy w25 none := by rw [hw25]; exact gr_alloc (World.grownBy.refl _ _) _
                      have hb25 : Box w25 (w19).heap.size 9 [.string l[q].job, .string ⟨#[74]⟩, .string ⟨#[106, 49]⟩] := by rw [hw25]; exact Box.new _ _ _
                      rw [← hw25]
                      clear hw25
                      obtain ⟨x25, hx25⟩ : ∃ x, x = (w19).heap.size := ⟨_, rfl⟩
                      rw [← hx25] at hb25 ⊢
                      have hxl25 : (w19).heap.size ≤ x25 := by omega
                      clear hx25
                      have hbx25 : b < x25 := by have := hoB.lt; omega
                      replace hoB := hoB.pure hg25
                      replace hown := hown.pure hg25
                      refine tree_e0 (by kernel_rfl) rfl rfl (fun K hK => ?_)
                      go_wp2_with fail
                      refine (some_any b _ _ _ _ [l[q].job, ⟨#[74]⟩, ⟨#[106, 49]⟩] w25 hoB.2 (by omega) (hb25.sl (row_strs _ _ _) (by omega) (by simp [maxLen])) rfl (by simp)).mono ?_
                      rintro e w26 ⟨s26, rfl, ho26⟩
                      go_wp2_with fail
                      try go_simp
                      refine hK _ _ trivial ?_
                      clear hK K
                      replace hoB := hoB.trans ho26
                      replace hown := hown.s ho26 hb1
                      refine tree_n rfl rfl _ rfl _ rfl ?_
                      try go_simp
                      refine tree_p rfl rfl rfl rfl _ rfl (by simp) (fun K hK => ?_)
                      apply Exists.intro
                      refine ⟨fun wq K' hK' => ?_, ?_⟩
                      · go_wp2_with fail
                        exact hK'
                      go_simp
                      refine hK _ ?_
                      clear hK K
                      refine tree_e0 (by kernel_rfl) rfl rfl (fun K hK => ?_)
                      have f0 := hown.frozen (q * 5)
                      obtain ⟨cq, rfl, hc⟩ := hown.cell_at (by decide) hql
                      have c0 : w26.cell? ⟨g, q * 5, none⟩ = some (.int .i64 l[q].at_) := hc 0 _ rfl
                      clear hc
                      go_wp2_with fail
                      try go_simp
                      refine hK _ _ trivial ?_
                      clear hK K
                      obtain ⟨l2, hown2, hlen2⟩ : ∃ x : List Ev, Own ((w26).setCell ⟨g, q * 5, none⟩ (.int .i64 s10)) w1.heap.size 60 (some ⟨g, 0, none⟩) c' x ∧ x.length = l.length := ⟨_, Own.set_ev0 hown hql s10, by rw [List.length_set]; skip⟩
                      have hoB2 := hoB.set hbw (p := ⟨g, q * 5, none⟩) (by simp only; omega) (.int .i64 s10)
                      have hql2 : q < l2.length := by omega
                      replace hlen2 := hide hlen2
                      obtain ⟨w29, hwn⟩ : ∃ x, x = (w26).setCell ⟨g, q * 5, none⟩ (.int .i64 s10) := ⟨_, rfl⟩
                      rw [← hwn] at hown2 hoB2 ⊢
                      clear hwn
                      refine tree_n rfl rfl _ rfl _ rfl ?_
                      try go_simp
                      refine tree_p rfl rfl rfl rfl _ rfl (by simp) (fun K hK => ?_)
                      apply Exists.intro
                      refine ⟨fun wq K' hK' => ?_, ?_⟩
                      · go_wp2_with fail
                        exact hK'
                      go_simp
                      refine hK _ ?_
                      clear hK K
                      refine tree_e0 (by kernel_rfl) rfl rfl (fun K hK => ?_)
                      have f1 := hown2.frozen (q * 5 + 1)
                      obtain ⟨cq, rfl, hc⟩ := hown2.cell_at (by decide) hql2
                      have c1 : w29.cell? ⟨g, q * 5 + 1, none⟩ = some (.int .i64 l2[q].kind) := hc 1 _ rfl
                      clear hc
                      go_wp2_with fail
                      try go_simp
                      refine hK _ _ trivial ?_
                      clear hK K
                      obtain ⟨l3, hown3, hlen3⟩ : ∃ x : List Ev, Own ((w29).setCell ⟨g, q * 5+ 1, none⟩ (.int .i64 s12)) w1.heap.size 60 (some ⟨g, 0, none⟩) c' x ∧ x.length = l.length := ⟨_, Own.set_ev1 hown2 hql2 s12, by rw [List.length_set]; exact hlen2.out⟩
                      have hoB3 := hoB2.set hbw (p := ⟨g, q * 5+ 1, none⟩) (by simp only; omega) (.int .i64 s12)
                      have hql3 : q < l3.length := by omega
                      replace hlen3 := hide hlen3
                      obtain ⟨w32, hwn⟩ : ∃ x, x = (w29).setCell ⟨g, q * 5+ 1, none⟩ (.int .i64 s12) := ⟨_, rfl⟩
                      rw [← hwn] at hown3 hoB3 ⊢
                      clear hwn
                      refine tree_n rfl rfl _ rfl _ rfl ?_
                      try go_simp
                      refine tree_p rfl rfl rfl rfl _ rfl (by simp) (fun K hK => ?_)
                      apply Exists.intro
                      refine ⟨fun wq K' hK' => ?_, ?_⟩
                      · go_wp2_with fail
                        exact hK'
                      go_simp
                      refine hK _ ?_
                      clear hK K
                      refine tree_e0 (by kernel_rfl) rfl rfl (fun K hK => ?_)
                      have f2 := hown3.frozen (q * 5 + 2)
                      obtain ⟨cq, rfl, hc⟩ := hown3.cell_at (by decide) hql3
                      have c2 : w32.cell? ⟨g, q * 5 + 2, none⟩ = some (.string l3[q].pr) := hc 2 _ rfl
                      clear hc
                      go_wp2_with fail
                      try go_simp
                      refine hK _ _ trivial ?_
                      clear hK K
                      obtain ⟨l4, hown4, hlen4⟩ : ∃ x : List Ev, Own ((w32).setCell ⟨g, q * 5+ 2, none⟩ (.string s19)) w1.heap.size 60 (some ⟨g, 0, none⟩) c' x ∧ x.length = l.length := ⟨_, Own.set_ev2 hown3 hql3 s19, by rw [List.length_set]; exact hlen3.out⟩
                      have hoB4 := hoB3.set hbw (p := ⟨g, q * 5+ 2, none⟩) (by simp only; omega) (.string s19)
                      have hql4 : q < l4.length := by omega
                      replace hlen4 := hide hlen4
                      obtain ⟨w35, hwn⟩ : ∃ x, x = (w32).setCell ⟨g, q * 5+ 2, none⟩ (.string s19) := ⟨_, rfl⟩
                      rw [← hwn] at hown4 hoB4 ⊢
                      clear hwn
                      refine tree_n rfl rfl _ rfl _ rfl ?_
                      try go_simp
                      refine tree_p rfl rfl rfl rfl _ rfl (by simp) (fun K hK => ?_)
                      apply Exists.intro
                      refine ⟨fun wq K' hK' => ?_, ?_⟩
                      · go_wp2_with fail
                        exact hK'
                      go_simp
                      refine hK _ ?_
                      clear hK K
                      refine tree_e0 (by kernel_rfl) rfl rfl (fun K hK => ?_)
                      have f3 := hown4.frozen (q * 5 + 3)
                      obtain ⟨cq, rfl, hc⟩ := hown4.cell_at (by decide) hql4
                      have c3 : w35.cell? ⟨g, q * 5 + 3, none⟩ = some (.string l4[q].job) := hc 3 _ rfl
                      clear hc
                      go_wp2_with fail
                      try go_simp
                      refine hK _ _ trivial ?_
                      clear hK K
                      refine tree_done ?_
                      obtain ⟨l5, hown5, hlen5⟩ : ∃ x : List Ev, Own ((w35).setCell ⟨g, q * 5+ 3, none⟩ (.string s26)) w1.heap.size 60 (some ⟨g, 0, none⟩) c' x ∧ x.length = l.length := ⟨_, Own.set_ev3 hown4 hql4 s26, by rw [List.length_set]; exact hlen4.out⟩
                      have hoB5 := hoB4.set hbw (p := ⟨g, q * 5+ 3, none⟩) (by simp only; omega) (.string s26)
                      have hql5 : q < l5.length := by omega
                      replace hlen5 := hide hlen5
                      obtain ⟨w38, hwn⟩ : ∃ x, x = (w35).setCell ⟨g, q * 5+ 3, none⟩ (.string s26) := ⟨_, rfl⟩
                      rw [← hwn] at hown5 hoB5 ⊢
                      clear hwn
                      rw [← hlen5.out]
                      have hl5 : l5.length ≤ 16 := by have := hlen5.out; omega
                      clear hlen5 hlen4 hlen3 hlen2 hown hown2 hown3 hown4 hoB hoB2 hoB3 hoB4
                      go_wp2_with fail
                      go_ret
                      exact ⟨l5, _, _, rfl, hown5.sl.mono (by omega), hl5, hown5.cap, hoB5.mono (by omega)⟩
                    · refine tree_e rfl rfl (fun K hK => ?_)
                      go_wp2_with fail
                      try go_simp
                      refine hK _ _ ((hown.pure (gr_alloc (World.grownBy.refl _ _) _))) ?_
                      clear hK K
                      obtain ⟨w25, hw25⟩ : ∃ x, x = (w12).alloc (.cells [.string l[q].job, .string ⟨#[74]⟩, .string ⟨#[106, 49]⟩].toArray 9) := ⟨_, rfl⟩
                      have hg25 : (w12).grownBy w25 none := by rw [hw25]; exact gr_alloc (World.grownBy.refl _ _) _
                      have hb25 : Box w25 (w12).heap.size 9 [.string l[q].job, .string ⟨#[74]⟩, .string ⟨#[106, 49]⟩] := by rw [hw25]; exact Box.new _ _ _
                      rw [← hw25]
                      clear hw25
                      obtain ⟨x25, hx25⟩ : ∃ x, x = (w12).heap.size := ⟨_, rfl⟩
                      rw [← hx25] at hb25 ⊢
                      have hxl25 : (w12).heap.size ≤ x25 := by omega
                      clear hx25
                      have hbx25 : b < x25 := by have := hoB.lt; omega
                      replace hoB := hoB.pure hg25
                      replace hown := hown.pure hg25
                      replace hb18 := hb18.pure hg25
                      refine tree_e rfl rfl (fun K hK => ?_)
                      go_wp2_with fail
                      refine (some_any b _ _ _ _ [l[q].pr, ⟨#[122, 122]⟩, ⟨#[]⟩] w25 hoB.2 (by omega) (hb18.sl (row_strs _ _ _) (by omega) (by simp [maxLen])) rfl (by simp)).mono ?_
                      rintro e w19 ⟨s19, rfl, ho19⟩
                      go_wp2_with fail
                      try go_simp
                      refine hK _ _ ((hown.s ho19 hb1)) ?_
                      clear hK K
                      replace hoB := hoB.trans ho19
                      replace hown := hown.s ho19 hb1
                      replace hb25 := hb25.gr ho19.1 (fun e => by injection e; omega)
                      refine tree_e0 (by kernel_rfl) rfl rfl (fun K hK => ?_)
                      go_wp2_with fail
                      refine (some_any b _ _ _ _ [l[q].job, ⟨#[74]⟩, ⟨#[106, 49]⟩] w19 hoB.2 (by omega) (hb25.sl (row_strs _ _ _) (by omega) (by simp [maxLen])) rfl (by simp)).mono ?_
                      rintro e w26 ⟨s26, rfl, ho26⟩
                      go_wp2_with fail
                      try go_simp
                      refine hK _ _ trivial ?_
                      clear hK K
                      replace hoB := hoB.trans ho26
                      replace hown := hown.s ho26 hb1
                      refine tree_n rfl rfl _ rfl _ rfl ?_
                      try go_simp
                      refine tree_p rfl rfl rfl rfl _ rfl (by simp) (fun K hK => ?_)
                      apply Exists.intro
                      refine ⟨fun wq K' hK' => ?_, ?_⟩
                      · go_wp2_with fail
                        exact hK'
                      go_simp
                      refine hK _ ?_
                      clear hK K
                      refine tree_e0 (by kernel_rfl) rfl rfl (fun K hK => ?_)
                      have f0 := hown.frozen (q * 5)
                      obtain ⟨cq, rfl, hc⟩ := hown.cell_at (by decide) hql
                      have c0 : w26.cell? ⟨g, q * 5, none⟩ = some (.int .i64 l[q].at_) := hc 0 _ rfl
                      clear hc
                      go_wp2_with fail
                      try go_simp
                      refine hK _ _ trivial ?_
                      clear hK K
                      obtain ⟨l2, hown2, hlen2⟩ : ∃ x : List Ev, Own ((w26).setCell ⟨g, q * 5, none⟩ (.int .i64 s10)) w1.heap.size 60 (some ⟨g, 0, none⟩) c' x ∧ x.length = l.length := ⟨_, Own.set_ev0 hown hql s10, by rw [List.length_set]; skip⟩
                      have hoB2 := hoB.set hbw (p := ⟨g, q * 5, none⟩) (by simp only; omega) (.int .i64 s10)
                      have hql2 : q < l2.length := by omega
                      replace hlen2 := hide hlen2
                      obtain ⟨w29, hwn⟩ : ∃ x, x = (w26).setCell ⟨g, q * 5, none⟩ (.int .i64 s10) := ⟨_, rfl⟩
                      rw [← hwn] at hown2 hoB2 ⊢
                      clear hwn
                      refine tree_n rfl rfl _ rfl _ rfl ?_
                      try go_simp
                      refine tree_p rfl rfl rfl rfl _ rfl (by simp) (fun K hK => ?_)
                      apply Exists.intro
                      refine ⟨fun wq K' hK' => ?_, ?_⟩
                      · go_wp2_with fail
                        exact hK'
                      go_simp
                      refine hK _ ?_
                      clear hK K
                      refine tree_e0 (by kernel_rfl) rfl rfl (fun K hK => ?_)
                      have f1 := hown2.frozen (q * 5 + 1)
                      obtain ⟨cq, rfl, hc⟩ := hown2.cell_at (by decide) hql2
                      have c1 : w29.cell? ⟨g, q * 5 + 1, none⟩ = some (.int .i64 l2[q].kind) := hc 1 _ rfl
                      clear hc
                      go_wp2_with fail
                      try go_simp
                      refine hK _ _ trivial ?_
                      clear hK K
                      obtain ⟨l3, hown3, hlen3⟩ : ∃ x : List Ev, Own ((w29).setCell ⟨g, q * 5+ 1, none⟩ (.int .i64 s12)) w1.heap.size 60 (some ⟨g, 0, none⟩) c' x ∧ x.length = l.length := ⟨_, Own.set_ev1 hown2 hql2 s12, by rw [List.length_set]; exact hlen2.out⟩
                      have hoB3 := hoB2.set hbw (p := ⟨g, q * 5+ 1, none⟩) (by simp only; omega) (.int .i64 s12)
                      have hql3 : q < l3.length := by omega
                      replace hlen3 := hide hlen3
                      obtain ⟨w32, hwn⟩ : ∃ x, x = (w29).setCell ⟨g, q * 5+ 1, none⟩ (.int .i64 s12) := ⟨_, rfl⟩
                      rw [← hwn] at hown3 hoB3 ⊢
                      clear hwn
                      refine tree_n rfl rfl _ rfl _ rfl ?_
                      try go_simp
                      refine tree_p rfl rfl rfl rfl _ rfl (by simp) (fun K hK => ?_)
                      apply Exists.intro
                      refine ⟨fun wq K' hK' => ?_, ?_⟩
                      · go_wp2_with fail
                        exact hK'
                      go_simp
                      refine hK _ ?_
                      clear hK K
                      refine tree_e0 (by kernel_rfl) rfl rfl (fun K hK => ?_)
                      have f2 := hown3.frozen (q * 5 + 2)
                      obtain ⟨cq, rfl, hc⟩ := hown3.cell_at (by decide) hql3
                      have c2 : w32.cell? ⟨g, q * 5 + 2, none⟩ = some (.string l3[q].pr) := hc 2 _ rfl
                      clear hc
                      go_wp2_with fail
                      try go_simp
                      refine hK _ _ trivial ?_
                      clear hK K
                      obtain ⟨l4, hown4, hlen4⟩ : ∃ x : List Ev, Own ((w32).setCell ⟨g, q * 5+ 2, none⟩ (.string s19)) w1.heap.size 60 (some ⟨g, 0, none⟩) c' x ∧ x.length = l.length := ⟨_, Own.set_ev2 hown3 hql3 s19, by rw [List.length_set]; exact hlen3.out⟩
                      have hoB4 := hoB3.set hbw (p := ⟨g, q * 5+ 2, none⟩) (by simp only; omega) (.string s19)
                      have hql4 : q < l4.length := by omega
                      replace hlen4 := hide hlen4
                      obtain ⟨w35, hwn⟩ : ∃ x, x = (w32).setCell ⟨g, q * 5+ 2, none⟩ (.string s19) := ⟨_, rfl⟩
                      rw [← hwn] at hown4 hoB4 ⊢
                      clear hwn
                      refine tree_n rfl rfl _ rfl _ rfl ?_
                      try go_simp
                      refine tree_p rfl rfl rfl rfl _ rfl (by simp) (fun K hK => ?_)
                      apply Exists.intro
                      refine ⟨fun wq K' hK' => ?_, ?_⟩
                      · go_wp2_with fail
                        exact hK'
                      go_simp
                      refine hK _ ?_
                      clear hK K
                      refine tree_e0 (by kernel_rfl) rfl rfl (fun K hK => ?_)
                      have f3 := hown4.frozen (q * 5 + 3)
                      obtain ⟨cq, rfl, hc⟩ := hown4.cell_at (by decide) hql4
                      have c3 : w35.cell? ⟨g, q * 5 + 3, none⟩ = some (.string l4[q].job) := hc 3 _ rfl
                      clear hc
                      go_wp2_with fail
                      try go_simp
                      refine hK _ _ trivial ?_
                      clear hK K
                      refine tree_done ?_
                      obtain ⟨l5, hown5, hlen5⟩ : ∃ x : List Ev, Own ((w35).setCell ⟨g, q * 5+ 3, none⟩ (.string s26)) w1.heap.size 60 (some ⟨g, 0, none⟩) c' x ∧ x.length = l.length := ⟨_, Own.set_ev3 hown4 hql4 s26, by rw [List.length_set]; exact hlen4.out⟩
                      have hoB5 := hoB4.set hbw (p := ⟨g, q * 5+ 3, none⟩) (by simp only; omega) (.string s26)
                      have hql5 : q < l5.length := by omega
                      replace hlen5 := hide hlen5
                      obtain ⟨w38, hwn⟩ : ∃ x, x = (w35).setCell ⟨g, q * 5+ 3, none⟩ (.string s26) := ⟨_, rfl⟩
                      rw [← hwn] at hown5 hoB5 ⊢
                      clear hwn
                      rw [← hlen5.out]
                      have hl5 : l5.length ≤ 16 := by have := hlen5.out; omega
                      clear hlen5 hlen4 hlen3 hlen2 hown hown2 hown3 hown4 hoB hoB2 hoB3 hoB4
                      go_wp2_with fail
                      go_ret
                      exact ⟨l5, _, _, rfl, hown5.sl.mono (by omega), hl5, hown5.cap, hoB5.mono (by omega)⟩
                  · refine tree_e rfl rfl (fun K hK => ?_)
                    go_wp2_with fail
                    try go_simp
                    refine hK _ _ ((hown.pure (gr_alloc (World.grownBy.refl _ _) _))) ?_
                    clear hK K
                    obtain ⟨w25, hw25⟩ : ∃ x, x = (w10).alloc (.cells [.string l[q].job, .string ⟨#[74]⟩, .string ⟨#[106, 49]⟩].toArray 9) := ⟨_, rfl⟩
                    have hg25 : (w10).grownBy w25 none := by rw [hw25]; exact gr_alloc (World.grownBy.refl _ _) _
                    have hb25 : Box w25 (w10).heap.size 9 [.string l[q].job, .string ⟨#[74]⟩, .string ⟨#[106, 49]⟩] := by rw [hw25]; exact Box.new _ _ _
                    rw [← hw25]
                    clear hw25
                    obtain ⟨x25, hx25⟩ : ∃ x, x = (w10).heap.size := ⟨_, rfl⟩
                    rw [← hx25] at hb25 ⊢
                    have hxl25 : (w10).heap.size ≤ x25 := by omega
                    clear hx25
                    have hbx25 : b < x25 := by have := hoB.lt; omega
                    replace hoB := hoB.pure hg25
                    replace hown := hown.pure hg25
                    replace hb18 := hb18.pure hg25
                    refine tree_e rfl rfl (fun K hK => ?_)
                    go_wp2_with fail
                    refine (odd_any b _ _ _ w25 hoB.2 (by omega) (by omega) (by omega) (by omega)).mono ?_
                    rintro e w12 ⟨s12, rfl, _, ho12⟩
                    go_wp2_with fail
                    try go_simp
                    refine hK _ _ ((hown.s ho12 hb1)) ?_
                    clear hK K
                    replace hoB := hoB.trans ho12
                    replace hown := hown.s ho12 hb1
                    replace hb18 := hb18.gr ho12.1 (fun e => by injection e; omega)
                    replace hb25 := hb25.gr ho12.1 (fun e => by injection e; omega)
                    refine tree_e rfl rfl (fun K hK => ?_)
                    go_wp2_with fail
                    refine (some_any b _ _ _ _ [l[q].pr, ⟨#[122, 122]⟩, ⟨#[]⟩] w12 hoB.2 (by omega) (hb18.sl (row_strs _ _ _) (by omega) (by simp [maxLen])) rfl (by simp)).mono ?_
                    rintro e w19 ⟨s19, rfl, ho19⟩
                    go_wp2_with fail
                    try go_simp
                    refine hK _ _ ((hown.s ho19 hb1)) ?_
                    clear hK K
                    replace hoB := hoB.trans ho19
                    replace hown := hown.s ho19 hb1
                    replace hb25 := hb25.gr ho19.1 (fun e => by injection e; omega)
                    refine tree_e0 (by kernel_rfl) rfl rfl (fun K hK => ?_)
                    go_wp2_with fail
                    refine (some_any b _ _ _ _ [l[q].job, ⟨#[74]⟩, ⟨#[106, 49]⟩] w19 hoB.2 (by omega) (hb25.sl (row_strs _ _ _) (by omega) (by simp [maxLen])) rfl (by simp)).mono ?_
                    rintro e w26 ⟨s26, rfl, ho26⟩
                    go_wp2_with fail
                    try go_simp
                    refine hK _ _ trivial ?_
                    clear hK K
                    replace hoB := hoB.trans ho26
                    replace hown := hown.s ho26 hb1
                    refine tree_n rfl rfl _ rfl _ rfl ?_
                    try go_simp
                    refine tree_p rfl rfl rfl rfl _ rfl (by simp) (fun K hK => ?_)
                    apply Exists.intro
                    refine ⟨fun wq K' hK' => ?_, ?_⟩
                    · go_wp2_with fail
                      exact hK'
                    go_simp
                    refine hK _ ?_
                    clear hK K
                    refine tree_e0 (by kernel_rfl) rfl rfl (fun K hK => ?_)
                    have f0 := hown.frozen (q * 5)
                    obtain ⟨cq, rfl, hc⟩ := hown.cell_at (by decide) hql
                    have c0 : w26.cell? ⟨g, q * 5, none⟩ = some (.int .i64 l[q].at_) := hc 0 _ rfl
                    clear hc
                    go_wp2_with fail
                    try go_simp
                    refine hK _ _ trivial ?_
                    clear hK K
                    obtain ⟨l2, hown2, hlen2⟩ : ∃ x : List Ev, Own ((w26).setCell ⟨g, q * 5, none⟩ (.int .i64 s10)) w1.heap.size 60 (some ⟨g, 0, none⟩) c' x ∧ x.length = l.length := ⟨_, Own.set_ev0 hown hql s10, by rw [List.length_set]; skip⟩
                    have hoB2 := hoB.set hbw (p := ⟨g, q * 5, none⟩) (by simp only; omega) (.int .i64 s10)
                    have hql2 : q < l2.length := by omega
                    replace hlen2 := hide hlen2
                    obtain ⟨w29, hwn⟩ : ∃ x, x = (w26).setCell ⟨g, q * 5, none⟩ (.int .i64 s10) := ⟨_, rfl⟩
                    rw [← hwn] at hown2 hoB2 ⊢
                    clear hwn
                    refine tree_n rfl rfl _ rfl _ rfl ?_
                    try go_simp
                    refine tree_p rfl rfl rfl rfl _ rfl (by simp) (fun K hK => ?_)
                    apply Exists.intro
                    refine ⟨fun wq K' hK' => ?_, ?_⟩
                    · go_wp2_with fail
                      exact hK'
                    go_simp
                    refine hK _ ?_
                    clear hK K
                    refine tree_e0 (by kernel_rfl) rfl rfl (fun K hK => ?_)
                    have f1 := hown2.frozen (q * 5 + 1)
                    obtain ⟨cq, rfl, hc⟩ := hown2.cell_at (by decide) hql2
                    have c1 : w29.cell? ⟨g, q * 5 + 1, none⟩ = some (.int .i64 l2[q].kind) := hc 1 _ rfl
                    clear hc
                    go_wp2_with fail
                    try go_simp
                    refine hK _ _ trivial ?_
                    clear hK K
                    obtain ⟨l3, hown3, hlen3⟩ : ∃ x : List Ev, Own ((w29).setCell ⟨g, q * 5+ 1, none⟩ (.int .i64 s12)) w1.heap.size 60 (some ⟨g, 0, none⟩) c' x ∧ x.length = l.length := ⟨_, Own.set_ev1 hown2 hql2 s12, by rw [List.length_set]; exact hlen2.out⟩
                    have hoB3 := hoB2.set hbw (p := ⟨g, q * 5+ 1, none⟩) (by simp only; omega) (.int .i64 s12)
                    have hql3 : q < l3.length := by omega
                    replace hlen3 := hide hlen3
                    obtain ⟨w32, hwn⟩ : ∃ x, x = (w29).setCell ⟨g, q * 5+ 1, none⟩ (.int .i64 s12) := ⟨_, rfl⟩
                    rw [← hwn] at hown3 hoB3 ⊢
                    clear hwn
                    refine tree_n rfl rfl _ rfl _ rfl ?_
                    try go_simp
                    refine tree_p rfl rfl rfl rfl _ rfl (by simp) (fun K hK => ?_)
                    apply Exists.intro
                    refine ⟨fun wq K' hK' => ?_, ?_⟩
                    · go_wp2_with fail
                      exact hK'
                    go_simp
                    refine hK _ ?_
                    clear hK K
                    refine tree_e0 (by kernel_rfl) rfl rfl (fun K hK => ?_)
                    have f2 := hown3.frozen (q * 5 + 2)
                    obtain ⟨cq, rfl, hc⟩ := hown3.cell_at (by decide) hql3
                    have c2 : w32.cell? ⟨g, q * 5 + 2, none⟩ = some (.string l3[q].pr) := hc 2 _ rfl
                    clear hc
                    go_wp2_with fail
                    try go_simp
                    refine hK _ _ trivial ?_
                    clear hK K
                    obtain ⟨l4, hown4, hlen4⟩ : ∃ x : List Ev, Own ((w32).setCell ⟨g, q * 5+ 2, none⟩ (.string s19)) w1.heap.size 60 (some ⟨g, 0, none⟩) c' x ∧ x.length = l.length := ⟨_, Own.set_ev2 hown3 hql3 s19, by rw [List.length_set]; exact hlen3.out⟩
                    have hoB4 := hoB3.set hbw (p := ⟨g, q * 5+ 2, none⟩) (by simp only; omega) (.string s19)
                    have hql4 : q < l4.length := by omega
                    replace hlen4 := hide hlen4
                    obtain ⟨w35, hwn⟩ : ∃ x, x = (w32).setCell ⟨g, q * 5+ 2, none⟩ (.string s19) := ⟨_, rfl⟩
                    rw [← hwn] at hown4 hoB4 ⊢
                    clear hwn
                    refine tree_n rfl rfl _ rfl _ rfl ?_
                    try go_simp
                    refine tree_p rfl rfl rfl rfl _ rfl (by simp) (fun K hK => ?_)
                    apply Exists.intro
                    refine ⟨fun wq K' hK' => ?_, ?_⟩
                    · go_wp2_with fail
                      exact hK'
                    go_simp
                    refine hK _ ?_
                    clear hK K
                    refine tree_e0 (by kernel_rfl) rfl rfl (fun K hK => ?_)
                    have f3 := hown4.frozen (q * 5 + 3)
                    obtain ⟨cq, rfl, hc⟩ := hown4.cell_at (by decide) hql4
                    have c3 : w35.cell? ⟨g, q * 5 + 3, none⟩ = some (.string l4[q].job) := hc 3 _ rfl
                    clear hc
                    go_wp2_with fail
                    try go_simp
                    refine hK _ _ trivial ?_
                    clear hK K
                    refine tree_done ?_
                    obtain ⟨l5, hown5, hlen5⟩ : ∃ x : List Ev, Own ((w35).setCell ⟨g, q * 5+ 3, none⟩ (.string s26)) w1.heap.size 60 (some ⟨g, 0, none⟩) c' x ∧ x.length = l.length := ⟨_, Own.set_ev3 hown4 hql4 s26, by rw [List.length_set]; exact hlen4.out⟩
                    have hoB5 := hoB4.set hbw (p := ⟨g, q * 5+ 3, none⟩) (by simp only; omega) (.string s26)
                    have hql5 : q < l5.length := by omega
                    replace hlen5 := hide hlen5
                    obtain ⟨w38, hwn⟩ : ∃ x, x = (w35).setCell ⟨g, q * 5+ 3, none⟩ (.string s26) := ⟨_, rfl⟩
                    rw [← hwn] at hown5 hoB5 ⊢
                    clear hwn
                    rw [← hlen5.out]
                    have hl5 : l5.length ≤ 16 := by have := hlen5.out; omega
                    clear hlen5 hlen4 hlen3 hlen2 hown hown2 hown3 hown4 hoB hoB2 hoB3 hoB4
                    go_wp2_with fail
                    go_ret
                    exact ⟨l5, _, _, rfl, hown5.sl.mono (by omega), hl5, hown5.cap, hoB5.mono (by omega)⟩
                · refine tree_e rfl rfl (fun K hK => ?_)
                  go_wp2_with fail
                  try go_simp
                  refine hK _ _ ((hown.pure (gr_alloc (World.grownBy.refl _ _) _))) ?_
                  clear hK K
                  obtain ⟨w25, hw25⟩ : ∃ x, x = (w9).alloc (.cells [.string l[q].job, .string ⟨#[74]⟩, .string ⟨#[106, 49]⟩].toArray 9) := ⟨_, rfl⟩
                  have hg25 : (w9).grownBy w25 none := by rw [hw25]; exact gr_alloc (World.grownBy.refl _ _) _
                  have hb25 : Box w25 (w9).heap.size 9 [.string l[q].job, .string ⟨#[74]⟩, .string ⟨#[106, 49]⟩] := by rw [hw25]; exact Box.new _ _ _
                  rw [← hw25]
                  clear hw25
                  obtain ⟨x25, hx25⟩ : ∃ x, x = (w9).heap.size := ⟨_, rfl⟩
                  rw [← hx25] at hb25 ⊢
                  have hxl25 : (w9).heap.size ≤ x25 := by omega
                  clear hx25
                  have hbx25 : b < x25 := by have := hoB.lt; omega
                  replace hoB := hoB.pure hg25
                  replace hown := hown.pure hg25
                  replace hb9 := hb9.pure hg25
                  replace hb18 := hb18.pure hg25
                  refine tree_e rfl rfl (fun K hK => ?_)
                  go_wp2_with fail
                  refine (pick_any b _ _ _ _ [l[q].at_, -1, 0] w25 hoB.2 (by omega) (hb9.sl (row_ints _ _ _) (by omega) (by simp [maxLen])) rfl (by simp)).mono ?_
                  rintro e w10 ⟨s10, rfl, _, ho10⟩
                  go_wp2_with fail
                  try go_simp
                  refine hK _ _ ((hown.s ho10 hb1)) ?_
                  clear hK K
                  replace hoB := hoB.trans ho10
                  replace hown := hown.s ho10 hb1
                  replace hb18 := hb18.gr ho10.1 (fun e => by injection e; omega)
                  replace hb25 := hb25.gr ho10.1 (fun e => by injection e; omega)
                  refine tree_e rfl rfl (fun K hK => ?_)
                  go_wp2_with fail
                  refine (odd_any b _ _ _ w10 hoB.2 (by omega) (by omega) (by omega) (by omega)).mono ?_
                  rintro e w12 ⟨s12, rfl, _, ho12⟩
                  go_wp2_with fail
                  try go_simp
                  refine hK _ _ ((hown.s ho12 hb1)) ?_
                  clear hK K
                  replace hoB := hoB.trans ho12
                  replace hown := hown.s ho12 hb1
                  replace hb18 := hb18.gr ho12.1 (fun e => by injection e; omega)
                  replace hb25 := hb25.gr ho12.1 (fun e => by injection e; omega)
                  refine tree_e rfl rfl (fun K hK => ?_)
                  go_wp2_with fail
                  refine (some_any b _ _ _ _ [l[q].pr, ⟨#[122, 122]⟩, ⟨#[]⟩] w12 hoB.2 (by omega) (hb18.sl (row_strs _ _ _) (by omega) (by simp [maxLen])) rfl (by simp)).mono ?_
                  rintro e w19 ⟨s19, rfl, ho19⟩
                  go_wp2_with fail
                  try go_simp
                  refine hK _ _ ((hown.s ho19 hb1)) ?_
                  clear hK K
                  replace hoB := hoB.trans ho19
                  replace hown := hown.s ho19 hb1
                  replace hb25 := hb25.gr ho19.1 (fun e => by injection e; omega)
                  refine tree_e0 (by kernel_rfl) rfl rfl (fun K hK => ?_)
                  go_wp2_with fail
                  refine (some_any b _ _ _ _ [l[q].job, ⟨#[74]⟩, ⟨#[106, 49]⟩] w19 hoB.2 (by omega) (hb25.sl (row_strs _ _ _) (by omega) (by simp [maxLen])) rfl (by simp)).mono ?_
                  rintro e w26 ⟨s26, rfl, ho26⟩
                  go_wp2_with fail
                  try go_simp
                  refine hK _ _ trivial ?_
                  clear hK K
                  replace hoB := hoB.trans ho26
                  replace hown := hown.s ho26 hb1
                  refine tree_n rfl rfl _ rfl _ rfl ?_
                  try go_simp
                  refine tree_p rfl rfl rfl rfl _ rfl (by simp) (fun K hK => ?_)
                  apply Exists.intro
                  refine ⟨fun wq K' hK' => ?_, ?_⟩
                  · go_wp2_with fail
                    exact hK'
                  go_simp
                  refine hK _ ?_
                  clear hK K
                  refine tree_e0 (by kernel_rfl) rfl rfl (fun K hK => ?_)
                  have f0 := hown.frozen (q * 5)
                  obtain ⟨cq, rfl, hc⟩ := hown.cell_at (by decide) hql
                  have c0 : w26.cell? ⟨g, q * 5, none⟩ = some (.int .i64 l[q].at_) := hc 0 _ rfl
                  clear hc
                  go_wp2_with fail
                  try go_simp
                  refine hK _ _ trivial ?_
                  clear hK K
                  obtain ⟨l2, hown2, hlen2⟩ : ∃ x : List Ev, Own ((w26).setCell ⟨g, q * 5, none⟩ (.int .i64 s10)) w1.heap.size 60 (some ⟨g, 0, none⟩) c' x ∧ x.length = l.length := ⟨_, Own.set_ev0 hown hql s10, by rw [List.length_set]; skip⟩
                  have hoB2 := hoB.set hbw (p := ⟨g, q * 5, none⟩) (by simp only; omega) (.int .i64 s10)
                  have hql2 : q < l2.length := by omega
                  replace hlen2 := hide hlen2
                  obtain ⟨w29, hwn⟩ : ∃ x, x = (w26).setCell ⟨g, q * 5, none⟩ (.int .i64 s10) := ⟨_, rfl⟩
                  rw [← hwn] at hown2 hoB2 ⊢
                  clear hwn
                  refine tree_n rfl rfl _ rfl _ rfl ?_
                  try go_simp
                  refine tree_p rfl rfl rfl rfl _ rfl (by simp) (fun K hK => ?_)
                  apply Exists.intro
                  refine ⟨fun wq K' hK' => ?_, ?_⟩
                  · go_wp2_with fail
                    exact hK'
                  go_simp
                  refine hK _ ?_
                  clear hK K
                  refine tree_e0 (by kernel_rfl) rfl rfl (fun K hK => ?_)
                  have f1 := hown2.frozen (q * 5 + 1)
                  obtain ⟨cq, rfl, hc⟩ := hown2.cell_at (by decide) hql2
                  have c1 : w29.cell? ⟨g, q * 5 + 1, none⟩ = some (.int .i64 l2[q].kind) := hc 1 _ rfl
                  clear hc
                  go_wp2_with fail
                  try go_simp
                  refine hK _ _ trivial ?_
                  clear hK K
                  obtain ⟨l3, hown3, hlen3⟩ : ∃ x : List Ev, Own ((w29).setCell ⟨g, q * 5+ 1, none⟩ (.int .i64 s12)) w1.heap.size 60 (some ⟨g, 0, none⟩) c' x ∧ x.length = l.length := ⟨_, Own.set_ev1 hown2 hql2 s12, by rw [List.length_set]; exact hlen2.out⟩
                  have hoB3 := hoB2.set hbw (p := ⟨g, q * 5+ 1, none⟩) (by simp only; omega) (.int .i64 s12)
                  have hql3 : q < l3.length := by omega
                  replace hlen3 := hide hlen3
                  obtain ⟨w32, hwn⟩ : ∃ x, x = (w29).setCell ⟨g, q * 5+ 1, none⟩ (.int .i64 s12) := ⟨_, rfl⟩
                  rw [← hwn] at hown3 hoB3 ⊢
                  clear hwn
                  refine tree_n rfl rfl _ rfl _ rfl ?_
                  try go_simp
                  refine tree_p rfl rfl rfl rfl _ rfl (by simp) (fun K hK => ?_)
                  apply Exists.intro
                  refine ⟨fun wq K' hK' => ?_, ?_⟩
                  · go_wp2_with fail
                    exact hK'
                  go_simp
                  refine hK _ ?_
                  clear hK K
                  refine tree_e0 (by kernel_rfl) rfl rfl (fun K hK => ?_)
                  have f2 := hown3.frozen (q * 5 + 2)
                  obtain ⟨cq, rfl, hc⟩ := hown3.cell_at (by decide) hql3
                  have c2 : w32.cell? ⟨g, q * 5 + 2, none⟩ = some (.string l3[q].pr) := hc 2 _ rfl
                  clear hc
                  go_wp2_with fail
                  try go_simp
                  refine hK _ _ trivial ?_
                  clear hK K
                  obtain ⟨l4, hown4, hlen4⟩ : ∃ x : List Ev, Own ((w32).setCell ⟨g, q * 5+ 2, none⟩ (.string s19)) w1.heap.size 60 (some ⟨g, 0, none⟩) c' x ∧ x.length = l.length := ⟨_, Own.set_ev2 hown3 hql3 s19, by rw [List.length_set]; exact hlen3.out⟩
                  have hoB4 := hoB3.set hbw (p := ⟨g, q * 5+ 2, none⟩) (by simp only; omega) (.string s19)
                  have hql4 : q < l4.length := by omega
                  replace hlen4 := hide hlen4
                  obtain ⟨w35, hwn⟩ : ∃ x, x = (w32).setCell ⟨g, q * 5+ 2, none⟩ (.string s19) := ⟨_, rfl⟩
                  rw [← hwn] at hown4 hoB4 ⊢
                  clear hwn
                  refine tree_n rfl rfl _ rfl _ rfl ?_
                  try go_simp
                  refine tree_p rfl rfl rfl rfl _ rfl (by simp) (fun K hK => ?_)
                  apply Exists.intro
                  refine ⟨fun wq K' hK' => ?_, ?_⟩
                  · go_wp2_with fail
                    exact hK'
                  go_simp
                  refine hK _ ?_
                  clear hK K
                  refine tree_e0 (by kernel_rfl) rfl rfl (fun K hK => ?_)
                  have f3 := hown4.frozen (q * 5 + 3)
                  obtain ⟨cq, rfl, hc⟩ := hown4.cell_at (by decide) hql4
                  have c3 : w35.cell? ⟨g, q * 5 + 3, none⟩ = some (.string l4[q].job) := hc 3 _ rfl
                  clear hc
                  go_wp2_with fail
                  try go_simp
                  refine hK _ _ trivial ?_
                  clear hK K
                  refine tree_done ?_
                  obtain ⟨l5, hown5, hlen5⟩ : ∃ x : List Ev, Own ((w35).setCell ⟨g, q * 5+ 3, none⟩ (.string s26)) w1.heap.size 60 (some ⟨g, 0, none⟩) c' x ∧ x.length = l.length := ⟨_, Own.set_ev3 hown4 hql4 s26, by rw [List.length_set]; exact hlen4.out⟩
                  have hoB5 := hoB4.set hbw (p := ⟨g, q * 5+ 3, none⟩) (by simp only; omega) (.string s26)
                  have hql5 : q < l5.length := by omega
                  replace hlen5 := hide hlen5
                  obtain ⟨w38, hwn⟩ : ∃ x, x = (w35).setCell ⟨g, q * 5+ 3, none⟩ (.string s26) := ⟨_, rfl⟩
                  rw [← hwn] at hown5 hoB5 ⊢
                  clear hwn
                  rw [← hlen5.out]
                  have hl5 : l5.length ≤ 16 := by have := hlen5.out; omega
                  clear hlen5 hlen4 hlen3 hlen2 hown hown2 hown3 hown4 hoB hoB2 hoB3 hoB4
                  go_wp2_with fail
                  go_ret
                  exact ⟨l5, _, _, rfl, hown5.sl.mono (by omega), hl5, hown5.cap, hoB5.mono (by omega)⟩
              · refine tree_e rfl rfl (fun K hK => ?_)
                go_wp2_with fail
                try go_simp
                refine hK _ _ ((hown.pure (gr_alloc (World.grownBy.refl _ _) _))) ?_
                clear hK K
                obtain ⟨w25, hw25⟩ : ∃ x, x = (w18).alloc (.cells [.string l[q].job, .string ⟨#[74]⟩, .string ⟨#[106, 49]⟩].toArray 9) := ⟨_, rfl⟩
                have hg25 : (w18).grownBy w25 none := by rw [hw25]; exact gr_alloc (World.grownBy.refl _ _) _
                have hb25 : Box w25 (w18).heap.size 9 [.string l[q].job, .string ⟨#[74]⟩, .string ⟨#[106, 49]⟩] := by rw [hw25]; exact Box.new _ _ _
                rw [← hw25]
                clear hw25
                obtain ⟨x25, hx25⟩ : ∃ x, x = (w18).heap.size := ⟨_, rfl⟩
                rw [← hx25] at hb25 ⊢
                have hxl25 : (w18).heap.size ≤ x25 := by omega
                clear hx25
                have hbx25 : b < x25 := by have := hoB.lt; omega
                replace hoB := hoB.pure hg25
                replace hown := hown.pure hg25
                replace hb18 := hb18.pure hg25
                refine tree_e rfl rfl (fun K hK => ?_)
                go_wp2_with fail
                try go_simp
                refine hK _ _ ((hown.pure (gr_alloc (World.grownBy.refl _ _) _))) ?_
                clear hK K
                obtain ⟨w9, hw9⟩ : ∃ x, x = (w25).alloc (.cells [.int .i64 l[q].at_, .int .i64 (-1), .int .i64 0].toArray 3) := ⟨_, rfl⟩
                have hg9 : (w25).grownBy w9 none := by rw [hw9]; exact gr_alloc (World.grownBy.refl _ _) _
                have hb9 : Box w9 (w25).heap.size 3 [.int .i64 l[q].at_, .int .i64 (-1), .int .i64 0] := by rw [hw9]; exact Box.new _ _ _
                rw [← hw9]
                clear hw9
                obtain ⟨x9, hx9⟩ : ∃ x, x = (w25).heap.size := ⟨_, rfl⟩
                rw [← hx9] at hb9 ⊢
                have hxl9 : (w25).heap.size ≤ x9 := by omega
                clear hx9
                have hbx9 : b < x9 := by have := hoB.lt; omega
                replace hoB := hoB.pure hg9
                replace hown := hown.pure hg9
                replace hb18 := hb18.pure hg9
                replace hb25 := hb25.pure hg9
                refine tree_e rfl rfl (fun K hK => ?_)
                go_wp2_with fail
                refine (pick_any b _ _ _ _ [l[q].at_, -1, 0] w9 hoB.2 (by omega) (hb9.sl (row_ints _ _ _) (by omega) (by simp [maxLen])) rfl (by simp)).mono ?_
                rintro e w10 ⟨s10, rfl, _, ho10⟩
                go_wp2_with fail
                try go_simp
                refine hK _ _ ((hown.s ho10 hb1)) ?_
                clear hK K
                replace hoB := hoB.trans ho10
                replace hown := hown.s ho10 hb1
                replace hb18 := hb18.gr ho10.1 (fun e => by injection e; omega)
                replace hb25 := hb25.gr ho10.1 (fun e => by injection e; omega)
                refine tree_e rfl rfl (fun K hK => ?_)
                go_wp2_with fail
                refine (odd_any b _ _ _ w10 hoB.2 (by omega) (by omega) (by omega) (by omega)).mono ?_
                rintro e w12 ⟨s12, rfl, _, ho12⟩
                go_wp2_with fail
                try go_simp
                refine hK _ _ ((hown.s ho12 hb1)) ?_
                clear hK K
                replace hoB := hoB.trans ho12
                replace hown := hown.s ho12 hb1
                replace hb18 := hb18.gr ho12.1 (fun e => by injection e; omega)
                replace hb25 := hb25.gr ho12.1 (fun e => by injection e; omega)
                refine tree_e rfl rfl (fun K hK => ?_)
                go_wp2_with fail
                refine (some_any b _ _ _ _ [l[q].pr, ⟨#[122, 122]⟩, ⟨#[]⟩] w12 hoB.2 (by omega) (hb18.sl (row_strs _ _ _) (by omega) (by simp [maxLen])) rfl (by simp)).mono ?_
                rintro e w19 ⟨s19, rfl, ho19⟩
                go_wp2_with fail
                try go_simp
                refine hK _ _ ((hown.s ho19 hb1)) ?_
                clear hK K
                replace hoB := hoB.trans ho19
                replace hown := hown.s ho19 hb1
                replace hb25 := hb25.gr ho19.1 (fun e => by injection e; omega)
                refine tree_e0 (by kernel_rfl) rfl rfl (fun K hK => ?_)
                go_wp2_with fail
                refine (some_any b _ _ _ _ [l[q].job, ⟨#[74]⟩, ⟨#[106, 49]⟩] w19 hoB.2 (by omega) (hb25.sl (row_strs _ _ _) (by omega) (by simp [maxLen])) rfl (by simp)).mono ?_
                rintro e w26 ⟨s26, rfl, ho26⟩
                go_wp2_with fail
                try go_simp
                refine hK _ _ trivial ?_
                clear hK K
                replace hoB := hoB.trans ho26
                replace hown := hown.s ho26 hb1
                refine tree_n rfl rfl _ rfl _ rfl ?_
                try go_simp
                refine tree_p rfl rfl rfl rfl _ rfl (by simp) (fun K hK => ?_)
                apply Exists.intro
                refine ⟨fun wq K' hK' => ?_, ?_⟩
                · go_wp2_with fail
                  exact hK'
                go_simp
                refine hK _ ?_
                clear hK K
                refine tree_e0 (by kernel_rfl) rfl rfl (fun K hK => ?_)
                have f0 := hown.frozen (q * 5)
                obtain ⟨cq, rfl, hc⟩ := hown.cell_at (by decide) hql
                have c0 : w26.cell? ⟨g, q * 5, none⟩ = some (.int .i64 l[q].at_) := hc 0 _ rfl
                clear hc
                go_wp2_with fail
                try go_simp
                refine hK _ _ trivial ?_
                clear hK K
                obtain ⟨l2, hown2, hlen2⟩ : ∃ x : List Ev, Own ((w26).setCell ⟨g, q * 5, none⟩ (.int .i64 s10)) w1.heap.size 60 (some ⟨g, 0, none⟩) c' x ∧ x.length = l.length := ⟨_, Own.set_ev0 hown hql s10, by rw [List.length_set]; skip⟩
                have hoB2 := hoB.set hbw (p := ⟨g, q * 5, none⟩) (by simp only; omega) (.int .i64 s10)
                have hql2 : q < l2.length := by omega
                replace hlen2 := hide hlen2
                obtain ⟨w29, hwn⟩ : ∃ x, x = (w26).setCell ⟨g, q * 5, none⟩ (.int .i64 s10) := ⟨_, rfl⟩
                rw [← hwn] at hown2 hoB2 ⊢
                clear hwn
                refine tree_n rfl rfl _ rfl _ rfl ?_
                try go_simp
                refine tree_p rfl rfl rfl rfl _ rfl (by simp) (fun K hK => ?_)
                apply Exists.intro
                refine ⟨fun wq K' hK' => ?_, ?_⟩
                · go_wp2_with fail
                  exact hK'
                go_simp
                refine hK _ ?_
                clear hK K
                refine tree_e0 (by kernel_rfl) rfl rfl (fun K hK => ?_)
                have f1 := hown2.frozen (q * 5 + 1)
                obtain ⟨cq, rfl, hc⟩ := hown2.cell_at (by decide) hql2
                have c1 : w29.cell? ⟨g, q * 5 + 1, none⟩ = some (.int .i64 l2[q].kind) := hc 1 _ rfl
                clear hc
                go_wp2_with fail
                try go_simp
                refine hK _ _ trivial ?_
                clear hK K
                obtain ⟨l3, hown3, hlen3⟩ : ∃ x : List Ev, Own ((w29).setCell ⟨g, q * 5+ 1, none⟩ (.int .i64 s12)) w1.heap.size 60 (some ⟨g, 0, none⟩) c' x ∧ x.length = l.length := ⟨_, Own.set_ev1 hown2 hql2 s12, by rw [List.length_set]; exact hlen2.out⟩
                have hoB3 := hoB2.set hbw (p := ⟨g, q * 5+ 1, none⟩) (by simp only; omega) (.int .i64 s12)
                have hql3 : q < l3.length := by omega
                replace hlen3 := hide hlen3
                obtain ⟨w32, hwn⟩ : ∃ x, x = (w29).setCell ⟨g, q * 5+ 1, none⟩ (.int .i64 s12) := ⟨_, rfl⟩
                rw [← hwn] at hown3 hoB3 ⊢
                clear hwn
                refine tree_n rfl rfl _ rfl _ rfl ?_
                try go_simp
                refine tree_p rfl rfl rfl rfl _ rfl (by simp) (fun K hK => ?_)
                apply Exists.intro
                refine ⟨fun wq K' hK' => ?_, ?_⟩
                · go_wp2_with fail
                  exact hK'
                go_simp
                refine hK _ ?_
                clear hK K
                refine tree_e0 (by kernel_rfl) rfl rfl (fun K hK => ?_)
                have f2 := hown3.frozen (q * 5 + 2)
                obtain ⟨cq, rfl, hc⟩ := hown3.cell_at (by decide) hql3
                have c2 : w32.cell? ⟨g, q * 5 + 2, none⟩ = some (.string l3[q].pr) := hc 2 _ rfl
                clear hc
                go_wp2_with fail
                try go_simp
                refine hK _ _ trivial ?_
                clear hK K
                obtain ⟨l4, hown4, hlen4⟩ : ∃ x : List Ev, Own ((w32).setCell ⟨g, q * 5+ 2, none⟩ (.string s19)) w1.heap.size 60 (some ⟨g, 0, none⟩) c' x ∧ x.length = l.length := ⟨_, Own.set_ev2 hown3 hql3 s19, by rw [List.length_set]; exact hlen3.out⟩
                have hoB4 := hoB3.set hbw (p := ⟨g, q * 5+ 2, none⟩) (by simp only; omega) (.string s19)
                have hql4 : q < l4.length := by omega
                replace hlen4 := hide hlen4
                obtain ⟨w35, hwn⟩ : ∃ x, x = (w32).setCell ⟨g, q * 5+ 2, none⟩ (.string s19) := ⟨_, rfl⟩
                rw [← hwn] at hown4 hoB4 ⊢
                clear hwn
                refine tree_n rfl rfl _ rfl _ rfl ?_
                try go_simp
                refine tree_p rfl rfl rfl rfl _ rfl (by simp) (fun K hK => ?_)
                apply Exists.intro
                refine ⟨fun wq K' hK' => ?_, ?_⟩
                · go_wp2_with fail
                  exact hK'
                go_simp
                refine hK _ ?_
                clear hK K
                refine tree_e0 (by kernel_rfl) rfl rfl (fun K hK => ?_)
                have f3 := hown4.frozen (q * 5 + 3)
                obtain ⟨cq, rfl, hc⟩ := hown4.cell_at (by decide) hql4
                have c3 : w35.cell? ⟨g, q * 5 + 3, none⟩ = some (.string l4[q].job) := hc 3 _ rfl
                clear hc
                go_wp2_with fail
                try go_simp
                refine hK _ _ trivial ?_
                clear hK K
                refine tree_done ?_
                obtain ⟨l5, hown5, hlen5⟩ : ∃ x : List Ev, Own ((w35).setCell ⟨g, q * 5+ 3, none⟩ (.string s26)) w1.heap.size 60 (some ⟨g, 0, none⟩) c' x ∧ x.length = l.length := ⟨_, Own.set_ev3 hown4 hql4 s26, by rw [List.length_set]; exact hlen4.out⟩
                have hoB5 := hoB4.set hbw (p := ⟨g, q * 5+ 3, none⟩) (by simp only; omega) (.string s26)
                have hql5 : q < l5.length := by omega
                replace hlen5 := hide hlen5
                obtain ⟨w38, hwn⟩ : ∃ x, x = (w35).setCell ⟨g, q * 5+ 3, none⟩ (.string s26) := ⟨_, rfl⟩
                rw [← hwn] at hown5 hoB5 ⊢
                clear hwn
                rw [← hlen5.out]
                have hl5 : l5.length ≤ 16 := by have := hlen5.out; omega
                clear hlen5 hlen4 hlen3 hlen2 hown hown2 hown3 hown4 hoB hoB2 hoB3 hoB4
                go_wp2_with fail
                go_ret
                exact ⟨l5, _, _, rfl, hown5.sl.mono (by omega), hl5, hown5.cap, hoB5.mono (by omega)⟩
            · refine tree_e rfl rfl (fun K hK => ?_)
              go_wp2_with fail
              try go_simp
              refine hK _ _ ((hown.pure (gr_alloc (World.grownBy.refl _ _) _))) ?_
              clear hK K
              obtain ⟨w25, hw25⟩ : ∃ x, x = (W1).alloc (.cells [.string l[q].job, .string ⟨#[74]⟩, .string ⟨#[106, 49]⟩].toArray 9) := ⟨_, rfl⟩
              have hg25 : (W1).grownBy w25 none := by rw [hw25]; exact gr_alloc (World.grownBy.refl _ _) _
              have hb25 : Box w25 (W1).heap.size 9 [.string l[q].job, .string ⟨#[74]⟩, .string ⟨#[106, 49]⟩] := by rw [hw25]; exact Box.new _ _ _
              rw [← hw25]
              clear hw25
              obtain ⟨x25, hx25⟩ : ∃ x, x = (W1).heap.size := ⟨_, rfl⟩
              rw [← hx25] at hb25 ⊢
              have hxl25 : (W1).heap.size ≤ x25 := by omega
              clear hx25
              have hbx25 : b < x25 := by have := hoB.lt; omega
              replace hoB := hoB.pure hg25
              replace hown := hown.pure hg25
              refine tree_alt ?_ ?_
              · refine tree_e rfl rfl (fun K hK => ?_)
                go_wp2_with fail
                try go_simp
                refine hK _ _ ((hown.pure (gr_alloc (World.grownBy.refl _ _) _))) ?_
                clear hK K
                obtain ⟨w9, hw9⟩ : ∃ x, x = (w25).alloc (.cells [.int .i64 l[q].at_, .int .i64 (-1), .int .i64 0].toArray 3) := ⟨_, rfl⟩
                have hg9 : (w25).grownBy w9 none := by rw [hw9]; exact gr_alloc (World.grownBy.refl _ _) _
                have hb9 : Box w9 (w25).heap.size 3 [.int .i64 l[q].at_, .int .i64 (-1), .int .i64 0] := by rw [hw9]; exact Box.new _ _ _
                rw [← hw9]
                clear hw9
                obtain ⟨x9, hx9⟩ : ∃ x, x = (w25).heap.size := ⟨_, rfl⟩
                rw [← hx9] at hb9 ⊢
                have hxl9 : (w25).heap.size ≤ x9 := by omega
                clear hx9
                have hbx9 : b < x9 := by have := hoB.lt; omega
                replace hoB := hoB.pure hg9
                replace hown := hown.pure hg9
                replace hb25 := hb25.pure hg9
                refine tree_alt ?_ ?_
                · refine tree_e rfl rfl (fun K hK => ?_)
                  go_wp2_with fail
                  refine (pick_any b _ _ _ _ [l[q].at_, -1, 0] w9 hoB.2 (by omega) (hb9.sl (row_ints _ _ _) (by omega) (by simp [maxLen])) rfl (by simp)).mono ?_
                  rintro e w10 ⟨s10, rfl, _, ho10⟩
                  go_wp2_with fail
                  try go_simp
                  refine hK _ _ ((hown.s ho10 hb1)) ?_
                  clear hK K
                  replace hoB := hoB.trans ho10
                  replace hown := hown.s ho10 hb1
                  replace hb25 := hb25.gr ho10.1 (fun e => by injection e; omega)
                  refine tree_alt ?_ ?_
                  · refine tree_e rfl rfl (fun K hK => ?_)
                    go_wp2_with fail
                    refine (odd_any b _ _ _ w10 hoB.2 (by omega) (by omega) (by omega) (by omega)).mono ?_
                    rintro e w12 ⟨s12, rfl, _, ho12⟩
                    go_wp2_with fail
                    try go_simp
                    refine hK _ _ ((hown.s ho12 hb1)) ?_
                    clear hK K
                    replace hoB := hoB.trans ho12
                    replace hown := hown.s ho12 hb1
                    replace hb25 := hb25.gr ho12.1 (fun e => by injection e; omega)
                    refine tree_e rfl rfl (fun K hK => ?_)
                    go_wp2_with fail
                    try go_simp
                    refine hK _ _ ((hown.pure (gr_alloc (World.grownBy.refl _ _) _))) ?_
                    clear hK K
                    obtain ⟨w18, hw18⟩ : ∃ x, x = (w12).alloc (.cells [.string l[q].pr, .string ⟨#[122, 122]⟩, .string ⟨#[]⟩].toArray 9) := ⟨_, rfl⟩
                    have hg18 : (w12).grownBy w18 none := by rw [hw18]; exact gr_alloc (World.grownBy.refl _ _) _
                    have hb18 : Box w18 (w12).heap.size 9 [.string l[q].pr, .string ⟨#[122, 122]⟩, .string ⟨#[]⟩] := by rw [hw18]; exact Box.new _ _ _
                    rw [← hw18]
                    clear hw18
                    obtain ⟨x18, hx18⟩ : ∃ x, x = (w12).heap.size := ⟨_, rfl⟩
                    rw [← hx18] at hb18 ⊢
                    have hxl18 : (w12).heap.size ≤ x18 := by omega
                    clear hx18
                    have hbx18 : b < x18 := by have := hoB.lt; omega
                    replace hoB := hoB.pure hg18
                    replace hown := hown.pure hg18
                    replace hb25 := hb25.pure hg18
                    refine tree_e rfl rfl (fun K hK => ?_)
                    go_wp2_with fail
                    refine (some_any b _ _ _ _ [l[q].pr, ⟨#[122, 122]⟩, ⟨#[]⟩] w18 hoB.2 (by omega) (hb18.sl (row_strs _ _ _) (by omega) (by simp [maxLen])) rfl (by simp)).mono ?_
                    rintro e w19 ⟨s19, rfl, ho19⟩
                    go_wp2_with fail
                    try go_simp
                    refine hK _ _ ((hown.s ho19 hb1)) ?_
                    clear hK K
                    replace hoB := hoB.trans ho19
                    replace hown := hown.s ho19 hb1
                    replace hb25 := hb25.gr ho19.1 (fun e => by injection e; omega)
                    refine tree_e0 (by kernel_rfl) rfl rfl (fun K hK => ?_)
                    go_wp2_with fail
                    refine (some_any b _ _ _ _ [l[q].job, ⟨#[74]⟩, ⟨#[106, 49]⟩] w19 hoB.2 (by omega) (hb25.sl (row_strs _ _ _) (by omega) (by simp [maxLen])) rfl (by simp)).mono ?_
                    rintro e w26 ⟨s26, rfl, ho26⟩
                    go_wp2_with fail
                    try go_simp
                    refine hK _ _ trivial ?_
                    clear hK K
                    replace hoB := hoB.trans ho26
                    replace hown := hown.s ho26 hb1
                    refine tree_n rfl rfl _ rfl _ rfl ?_
                    try go_simp
                    refine tree_p rfl rfl rfl rfl _ rfl (by simp) (fun K hK => ?_)
                    apply Exists.intro
                    refine ⟨fun wq K' hK' => ?_, ?_⟩
                    · go_wp2_with fail
                      exact hK'
                    go_simp
                    refine hK _ ?_
                    clear hK K
                    refine tree_e0 (by kernel_rfl) rfl rfl (fun K hK => ?_)
                    have f0 := hown.frozen (q * 5)
                    obtain ⟨cq, rfl, hc⟩ := hown.cell_at (by decide) hql
                    have c0 : w26.cell? ⟨g, q * 5, none⟩ = some (.int .i64 l[q].at_) := hc 0 _ rfl
                    clear hc
                    go_wp2_with fail
                    try go_simp
                    refine hK _ _ trivial ?_
                    clear hK K
                    obtain ⟨l2, hown2, hlen2⟩ : ∃ x : List Ev, Own ((w26).setCell ⟨g, q * 5, none⟩ (.int .i64 s10)) w1.heap.size 60 (some ⟨g, 0, none⟩) c' x ∧ x.length = l.length := ⟨_, Own.set_ev0 hown hql s10, by rw [List.length_set]; skip⟩
                    have hoB2 := hoB.set hbw (p := ⟨g, q * 5, none⟩) (by simp only; omega) (.int .i64 s10)
                    have hql2 : q < l2.length := by omega
                    replace hlen2 := hide hlen2
                    obtain ⟨w29, hwn⟩ : ∃ x, x = (w26).setCell ⟨g, q * 5, none⟩ (.int .i64 s10) := ⟨_, rfl⟩
                    rw [← hwn] at hown2 hoB2 ⊢
                    clear hwn
                    refine tree_n rfl rfl _ rfl _ rfl ?_
                    try go_simp
                    refine tree_p rfl rfl rfl rfl _ rfl (by simp) (fun K hK => ?_)
                    apply Exists.intro
                    refine ⟨fun wq K' hK' => ?_, ?_⟩
                    · go_wp2_with fail
                      exact hK'
                    go_simp
                    refine hK _ ?_
                    clear hK K
                    refine tree_e0 (by kernel_rfl) rfl rfl (fun K hK => ?_)
                    have f1 := hown2.frozen (q * 5 + 1)
                    obtain ⟨cq, rfl, hc⟩ := hown2.cell_at (by decide) hql2
                    have c1 : w29.cell? ⟨g, q * 5 + 1, none⟩ = some (.int .i64 l2[q].kind) := hc 1 _ rfl
                    clear hc
                    go_wp2_with fail
                    try go_simp
                    refine hK _ _ trivial ?_
                    clear hK K
                    obtain ⟨l3, hown3, hlen3⟩ : ∃ x : List Ev, Own ((w29).setCell ⟨g, q * 5+ 1, none⟩ (.int .i64 s12)) w1.heap.size 60 (some ⟨g, 0, none⟩) c' x ∧ x.length = l.length := ⟨_, Own.set_ev1 hown2 hql2 s12, by rw [List.length_set]; exact hlen2.out⟩
                    have hoB3 := hoB2.set hbw (p := ⟨g, q * 5+ 1, none⟩) (by simp only; omega) (.int .i64 s12)
                    have hql3 : q < l3.length := by omega
                    replace hlen3 := hide hlen3
                    obtain ⟨w32, hwn⟩ : ∃ x, x = (w29).setCell ⟨g, q * 5+ 1, none⟩ (.int .i64 s12) := ⟨_, rfl⟩
                    rw [← hwn] at hown3 hoB3 ⊢
                    clear hwn
                    refine tree_n rfl rfl _ rfl _ rfl ?_
                    try go_simp
                    refine tree_p rfl rfl rfl rfl _ rfl (by simp) (fun K hK => ?_)
                    apply Exists.intro
                    refine ⟨fun wq K' hK' => ?_, ?_⟩
                    · go_wp2_with fail
                      exact hK'
                    go_simp
                    refine hK _ ?_
                    clear hK K
                    refine tree_e0 (by kernel_rfl) rfl rfl (fun K hK => ?_)
                    have f2 := hown3.frozen (q * 5 + 2)
                    obtain ⟨cq, rfl, hc⟩ := hown3.cell_at (by decide) hql3
                    have c2 : w32.cell? ⟨g, q * 5 + 2, none⟩ = some (.string l3[q].pr) := hc 2 _ rfl
                    clear hc
                    go_wp2_with fail
                    try go_simp
                    refine hK _ _ trivial ?_
                    clear hK K
                    obtain ⟨l4, hown4, hlen4⟩ : ∃ x : List Ev, Own ((w32).setCell ⟨g, q * 5+ 2, none⟩ (.string s19)) w1.heap.size 60 (some ⟨g, 0, none⟩) c' x ∧ x.length = l.length := ⟨_, Own.set_ev2 hown3 hql3 s19, by rw [List.length_set]; exact hlen3.out⟩
                    have hoB4 := hoB3.set hbw (p := ⟨g, q * 5+ 2, none⟩) (by simp only; omega) (.string s19)
                    have hql4 : q < l4.length := by omega
                    replace hlen4 := hide hlen4
                    obtain ⟨w35, hwn⟩ : ∃ x, x = (w32).setCell ⟨g, q * 5+ 2, none⟩ (.string s19) := ⟨_, rfl⟩
                    rw [← hwn] at hown4 hoB4 ⊢
                    clear hwn
                    refine tree_n rfl rfl _ rfl _ rfl ?_
                    try go_simp
                    refine tree_p rfl rfl rfl rfl _ rfl (by simp) (fun K hK => ?_)
                    apply Exists.intro
                    refine ⟨fun wq K' hK' => ?_, ?_⟩
                    · go_wp2_with fail
                      exact hK'
                    go_simp
                    refine hK _ ?_
                    clear hK K
                    refine tree_e0 (by kernel_rfl) rfl rfl (fun K hK => ?_)
                    have f3 := hown4.frozen (q * 5 + 3)
                    obtain ⟨cq, rfl, hc⟩ := hown4.cell_at (by decide) hql4
                    have c3 : w35.cell? ⟨g, q * 5 + 3, none⟩ = some (.string l4[q].job) := hc 3 _ rfl
                    clear hc
                    go_wp2_with fail
                    try go_simp
                    refine hK _ _ trivial ?_
                    clear hK K
                    refine tree_done ?_
                    obtain ⟨l5, hown5, hlen5⟩ : ∃ x : List Ev, Own ((w35).setCell ⟨g, q * 5+ 3, none⟩ (.string s26)) w1.heap.size 60 (some ⟨g, 0, none⟩) c' x ∧ x.length = l.length := ⟨_, Own.set_ev3 hown4 hql4 s26, by rw [List.length_set]; exact hlen4.out⟩
                    have hoB5 := hoB4.set hbw (p := ⟨g, q * 5+ 3, none⟩) (by simp only; omega) (.string s26)
                    have hql5 : q < l5.length := by omega
                    replace hlen5 := hide hlen5
                    obtain ⟨w38, hwn⟩ : ∃ x, x = (w35).setCell ⟨g, q * 5+ 3, none⟩ (.string s26) := ⟨_, rfl⟩
                    rw [← hwn] at hown5 hoB5 ⊢
                    clear hwn
                    rw [← hlen5.out]
                    have hl5 : l5.length ≤ 16 := by have := hlen5.out; omega
                    clear hlen5 hlen4 hlen3 hlen2 hown hown2 hown3 hown4 hoB hoB2 hoB3 hoB4
                    go_wp2_with fail
                    go_ret
                    exact ⟨l5, _, _, rfl, hown5.sl.mono (by omega), hl5, hown5.cap, hoB5.mono (by omega)⟩
                  · refine tree_e rfl rfl (fun K hK => ?_)
                    go_wp2_with fail
                    try go_simp
                    refine hK _ _ ((hown.pure (gr_alloc (World.grownBy.refl _ _) _))) ?_
                    clear hK K
                    obtain ⟨w18, hw18⟩ : ∃ x, x = (w10).alloc (.cells [.string l[q].pr, .string ⟨#[122, 122]⟩, .string ⟨#[]⟩].toArray 9) := ⟨_, rfl⟩
                    have hg18 : (w10).grownBy w18 none := by rw [hw18]; exact gr_alloc (World.grownBy.refl _ _) _
                    have hb18 : Box w18 (w10).heap.size 9 [.string l[q].pr, .string ⟨#[122, 122]⟩, .string ⟨#[]⟩] := by rw [hw18]; exact Box.new _ _ _
                    rw [← hw18]
                    clear hw18
                    obtain ⟨x18, hx18⟩ : ∃ x, x = (w10).heap.size := ⟨_, rfl⟩
                    rw [← hx18] at hb18 ⊢
                    have hxl18 : (w10).heap.size ≤ x18 := by omega
                    clear hx18
                    have hbx18 : b < x18 := by have := hoB.lt; omega
                    replace hoB := hoB.pure hg18
                    replace hown := hown.pure hg18
                    replace hb25 := hb25.pure hg18
                    refine tree_e rfl rfl (fun K hK => ?_)
                    go_wp2_with fail
                    refine (odd_any b _ _ _ w18 hoB.2 (by omega) (by omega) (by omega) (by omega)).mono ?_
                    rintro e w12 ⟨s12, rfl, _, ho12⟩
                    go_wp2_with fail
                    try go_simp
                    refine hK _ _ ((hown.s ho12 hb1)) ?_
                    clear hK K
                    replace hoB := hoB.trans ho12
                    replace hown := hown.s ho12 hb1
                    replace hb18 := hb18.gr ho12.1 (fun e => by injection e; omega)
                    replace hb25 := hb25.gr ho12.1 (fun e => by injection e; omega)
                    refine tree_e rfl rfl (fun K hK => ?_)
                    go_wp2_with fail
                    refine (some_any b _ _ _ _ [l[q].pr, ⟨#[122, 122]⟩, ⟨#[]⟩] w12 hoB.2 (by omega) (hb18.sl (row_strs _ _ _) (by omega) (by simp [maxLen])) rfl (by simp)).mono ?_
                    rintro e w19 ⟨s19, rfl, ho19⟩
                    go_wp2_with fail
                    try go_simp
                    refine hK _ _ ((hown.s ho19 hb1)) ?_
                    clear hK K
                    replace hoB := hoB.trans ho19
                    replace hown := hown.s ho19 hb1
                    replace hb25 := hb25.gr ho19.1 (fun e => by injection e; omega)
                    refine tree_e0 (by kernel_rfl) rfl rfl (fun K hK => ?_)
                    go_wp2_with fail
                    refine (some_any b _ _ _ _ [l[q].job, ⟨#[74]⟩, ⟨#[106, 49]⟩] w19 hoB.2 (by omega) (hb25.sl (row_strs _ _ _) (by omega) (by simp [maxLen])) rfl (by simp)).mono ?_
                    rintro e w26 ⟨s26, rfl, ho26⟩
                    go_wp2_with fail
                    try go_simp
                    refine hK _ _ trivial ?_
                    clear hK K
                    replace hoB := hoB.trans ho26
                    replace hown := hown.s ho26 hb1
                    refine tree_n rfl rfl _ rfl _ rfl ?_
                    try go_simp
                    refine tree_p rfl rfl rfl rfl _ rfl (by simp) (fun K hK => ?_)
                    apply Exists.intro
                    refine ⟨fun wq K' hK' => ?_, ?_⟩
                    · go_wp2_with fail
                      exact hK'
                    go_simp
                    refine hK _ ?_
                    clear hK K
                    refine tree_e0 (by kernel_rfl) rfl rfl (fun K hK => ?_)
                    have f0 := hown.frozen (q * 5)
                    obtain ⟨cq, rfl, hc⟩ := hown.cell_at (by decide) hql
                    have c0 : w26.cell? ⟨g, q * 5, none⟩ = some (.int .i64 l[q].at_) := hc 0 _ rfl
                    clear hc
                    go_wp2_with fail
                    try go_simp
                    refine hK _ _ trivial ?_
                    clear hK K
                    obtain ⟨l2, hown2, hlen2⟩ : ∃ x : List Ev, Own ((w26).setCell ⟨g, q * 5, none⟩ (.int .i64 s10)) w1.heap.size 60 (some ⟨g, 0, none⟩) c' x ∧ x.length = l.length := ⟨_, Own.set_ev0 hown hql s10, by rw [List.length_set]; skip⟩
                    have hoB2 := hoB.set hbw (p := ⟨g, q * 5, none⟩) (by simp only; omega) (.int .i64 s10)
                    have hql2 : q < l2.length := by omega
                    replace hlen2 := hide hlen2
                    obtain ⟨w29, hwn⟩ : ∃ x, x = (w26).setCell ⟨g, q * 5, none⟩ (.int .i64 s10) := ⟨_, rfl⟩
                    rw [← hwn] at hown2 hoB2 ⊢
                    clear hwn
                    refine tree_n rfl rfl _ rfl _ rfl ?_
                    try go_simp
                    refine tree_p rfl rfl rfl rfl _ rfl (by simp) (fun K hK => ?_)
                    apply Exists.intro
                    refine ⟨fun wq K' hK' => ?_, ?_⟩
                    · go_wp2_with fail
                      exact hK'
                    go_simp
                    refine hK _ ?_
                    clear hK K
                    refine tree_e0 (by kernel_rfl) rfl rfl (fun K hK => ?_)
                    have f1 := hown2.frozen (q * 5 + 1)
                    obtain ⟨cq, rfl, hc⟩ := hown2.cell_at (by decide) hql2
                    have c1 : w29.cell? ⟨g, q * 5 + 1, none⟩ = some (.int .i64 l2[q].kind) := hc 1 _ rfl
                    clear hc
                    go_wp2_with fail
                    try go_simp
                    refine hK _ _ trivial ?_
                    clear hK K
                    obtain ⟨l3, hown3, hlen3⟩ : ∃ x : List Ev, Own ((w29).setCell ⟨g, q * 5+ 1, none⟩ (.int .i64 s12)) w1.heap.size 60 (some ⟨g, 0, none⟩) c' x ∧ x.length = l.length := ⟨_, Own.set_ev1 hown2 hql2 s12, by rw [List.length_set]; exact hlen2.out⟩
                    have hoB3 := hoB2.set hbw (p := ⟨g, q * 5+ 1, none⟩) (by simp only; omega) (.int .i64 s12)
                    have hql3 : q < l3.length := by omega
                    replace hlen3 := hide hlen3
                    obtain ⟨w32, hwn⟩ : ∃ x, x = (w29).setCell ⟨g, q * 5+ 1, none⟩ (.int .i64 s12) := ⟨_, rfl⟩
                    rw [← hwn] at hown3 hoB3 ⊢
                    clear hwn
                    refine tree_n rfl rfl _ rfl _ rfl ?_
                    try go_simp
                    refine tree_p rfl rfl rfl rfl _ rfl (by simp) (fun K hK => ?_)
                    apply Exists.intro
                    refine ⟨fun wq K' hK' => ?_, ?_⟩
                    · go_wp2_with fail
                      exact hK'
                    go_simp
                    refine hK _ ?_
                    clear hK K
                    refine tree_e0 (by kernel_rfl) rfl rfl (fun K hK => ?_)
                    have f2 := hown3.frozen (q * 5 + 2)
                    obtain ⟨cq, rfl, hc⟩ := hown3.cell_at (by decide) hql3
                    have c2 : w32.cell? ⟨g, q * 5 + 2, none⟩ = some (.string l3[q].pr) := hc 2 _ rfl
                    clear hc
                    go_wp2_with fail
                    try go_simp
                    refine hK _ _ trivial ?_
                    clear hK K
                    obtain ⟨l4, hown4, hlen4⟩ : ∃ x : List Ev, Own ((w32).setCell ⟨g, q * 5+ 2, none⟩ (.string s19)) w1.heap.size 60 (some ⟨g, 0, none⟩) c' x ∧ x.length = l.length := ⟨_, Own.set_ev2 hown3 hql3 s19, by rw [List.length_set]; exact hlen3.out⟩
                    have hoB4 := hoB3.set hbw (p := ⟨g, q * 5+ 2, none⟩) (by simp only; omega) (.string s19)
                    have hql4 : q < l4.length := by omega
                    replace hlen4 := hide hlen4
                    obtain ⟨w35, hwn⟩ : ∃ x, x = (w32).setCell ⟨g, q * 5+ 2, none⟩ (.string s19) := ⟨_, rfl⟩
                    rw [← hwn] at hown4 hoB4 ⊢
                    clear hwn
                    refine tree_n rfl rfl _ rfl _ rfl ?_
                    try go_simp
                    refine tree_p rfl rfl rfl rfl _ rfl (by simp) (fun K hK => ?_)
                    apply Exists.intro
                    refine ⟨fun wq K' hK' => ?_, ?_⟩
                    · go_wp2_with fail
                      exact hK'
                    go_simp
                    refine hK _ ?_
                    clear hK K
                    refine tree_e0 (by kernel_rfl) rfl rfl (fun K hK => ?_)
                    have f3 := hown4.frozen (q * 5 + 3)
                    obtain ⟨cq, rfl, hc⟩ := hown4.cell_at (by decide) hql4
                    have c3 : w35.cell? ⟨g, q * 5 + 3, none⟩ = some (.string l4[q].job) := hc 3 _ rfl
                    clear hc
                    go_wp2_with fail
                    try go_simp
                    refine hK _ _ trivial ?_
                    clear hK K
                    refine tree_done ?_
                    obtain ⟨l5, hown5, hlen5⟩ : ∃ x : List Ev, Own ((w35).setCell ⟨g, q * 5+ 3, none⟩ (.string s26)) w1.heap.size 60 (some ⟨g, 0, none⟩) c' x ∧ x.length = l.length := ⟨_, Own.set_ev3 hown4 hql4 s26, by rw [List.length_set]; exact hlen4.out⟩
                    have hoB5 := hoB4.set hbw (p := ⟨g, q * 5+ 3, none⟩) (by simp only; omega) (.string s26)
                    have hql5 : q < l5.length := by omega
                    replace hlen5 := hide hlen5
                    obtain ⟨w38, hwn⟩ : ∃ x, x = (w35).setCell ⟨g, q * 5+ 3, none⟩ (.string s26) := ⟨_, rfl⟩
                    rw [← hwn] at hown5 hoB5 ⊢
                    clear hwn
                    rw [← hlen5.out]
                    have hl5 : l5.length ≤ 16 := by have := hlen5.out; omega
                    clear hlen5 hlen4 hlen3 hlen2 hown hown2 hown3 hown4 hoB hoB2 hoB3 hoB4
                    go_wp2_with fail
                    go_ret
                    exact ⟨l5, _, _, rfl, hown5.sl.mono (by omega), hl5, hown5.cap, hoB5.mono (by omega)⟩
                · refine tree_e rfl rfl (fun K hK => ?_)
                  go_wp2_with fail
                  try go_simp
                  refine hK _ _ ((hown.pure (gr_alloc (World.grownBy.refl _ _) _))) ?_
                  clear hK K
                  obtain ⟨w18, hw18⟩ : ∃ x, x = (w9).alloc (.cells [.string l[q].pr, .string ⟨#[122, 122]⟩, .string ⟨#[]⟩].toArray 9) := ⟨_, rfl⟩
                  have hg18 : (w9).grownBy w18 none := by rw [hw18]; exact gr_alloc (World.grownBy.refl _ _) _
                  have hb18 : Box w18 (w9).heap.size 9 [.string l[q].pr, .string ⟨#[122, 122]⟩, .string ⟨#[]⟩] := by rw [hw18]; exact Box.new _ _ _
                  rw [← hw18]
                  clear hw18
                  obtain ⟨x18, hx18⟩ : ∃ x, x = (w9).heap.size := ⟨_, rfl⟩
                  rw [← hx18] at hb18 ⊢
                  have hxl18 : (w9).heap.size ≤ x18 := by omega
                  clear hx18
                  have hbx18 : b < x18 := by have := hoB.lt; omega
                  replace hoB := hoB.pure hg18
                  replace hown := hown.pure hg18
                  replace hb9 := hb9.pure hg18
                  replace hb25 := hb25.pure hg18
                  refine tree_e rfl rfl (fun K hK => ?_)
                  go_wp2_with fail
                  refine (pick_any b _ _ _ _ [l[q].at_, -1, 0] w18 hoB.2 (by omega) (hb9.sl (row_ints _ _ _) (by omega) (by simp [maxLen])) rfl (by simp)).mono ?_
                  rintro e w10 ⟨s10, rfl, _, ho10⟩
                  go_wp2_with fail
                  try go_simp
                  refine hK _ _ ((hown.s ho10 hb1)) ?_
                  clear hK K
                  replace hoB := hoB.trans ho10
                  replace hown := hown.s ho10 hb1
                  replace hb18 := hb18.gr ho10.1 (fun e => by injection e; omega)
                  replace hb25 := hb25.gr ho10.1 (fun e => by injection e; omega)
                  refine tree_e rfl rfl (fun K hK => ?_)
                  go_wp2_with fail
                  refine (odd_any b _ _ _ w10 hoB.2 (by omega) (by omega) (by omega) (by omega)).mono ?_
                  rintro e w12 ⟨s12, rfl, _, ho12⟩
                  go_wp2_with fail
                  try go_simp
                  refine hK _ _ ((hown.s ho12 hb1)) ?_
                  clear hK K
                  replace hoB := hoB.trans ho12
                  replace hown := hown.s ho12 hb1
                  replace hb18 := hb18.gr ho12.1 (fun e => by injection e; omega)
                  replace hb25 := hb25.gr ho12.1 (fun e => by injection e; omega)
                  refine tree_e rfl rfl (fun K hK => ?_)
                  go_wp2_with fail
                  refine (some_any b _ _ _ _ [l[q].pr, ⟨#[122, 122]⟩, ⟨#[]⟩] w12 hoB.2 (by omega) (hb18.sl (row_strs _ _ _) (by omega) (by simp [maxLen])) rfl (by simp)).mono ?_
                  rintro e w19 ⟨s19, rfl, ho19⟩
                  go_wp2_with fail
                  try go_simp
                  refine hK _ _ ((hown.s ho19 hb1)) ?_
                  clear hK K
                  replace hoB := hoB.trans ho19
                  replace hown := hown.s ho19 hb1
                  replace hb25 := hb25.gr ho19.1 (fun e => by injection e; omega)
                  refine tree_e0 (by kernel_rfl) rfl rfl (fun K hK => ?_)
                  go_wp2_with fail
                  refine (some_any b _ _ _ _ [l[q].job, ⟨#[74]⟩, ⟨#[106, 49]⟩] w19 hoB.2 (by omega) (hb25.sl (row_strs _ _ _) (by omega) (by simp [maxLen])) rfl (by simp)).mono ?_
                  rintro e w26 ⟨s26, rfl, ho26⟩
                  go_wp2_with fail
                  try go_simp
                  refine hK _ _ trivial ?_
                  clear hK K
                  replace hoB := hoB.trans ho26
                  replace hown := hown.s ho26 hb1
                  refine tree_n rfl rfl _ rfl _ rfl ?_
                  try go_simp
                  refine tree_p rfl rfl rfl rfl _ rfl (by simp) (fun K hK => ?_)
                  apply Exists.intro
                  refine ⟨fun wq K' hK' => ?_, ?_⟩
                  · go_wp2_with fail
                    exact hK'
                  go_simp
                  refine hK _ ?_
                  clear hK K
                  refine tree_e0 (by kernel_rfl) rfl rfl (fun K hK => ?_)
                  have f0 := hown.frozen (q * 5)
                  obtain ⟨cq, rfl, hc⟩ := hown.cell_at (by decide) hql
                  have c0 : w26.cell? ⟨g, q * 5, none⟩ = some (.int .i64 l[q].at_) := hc 0 _ rfl
                  clear hc
                  go_wp2_with fail
                  try go_simp
                  refine hK _ _ trivial ?_
                  clear hK K
                  obtain ⟨l2, hown2, hlen2⟩ : ∃ x : List Ev, Own ((w26).setCell ⟨g, q * 5, none⟩ (.int .i64 s10)) w1.heap.size 60 (some ⟨g, 0, none⟩) c' x ∧ x.length = l.length := ⟨_, Own.set_ev0 hown hql s10, by rw [List.length_set]; skip⟩
                  have hoB2 := hoB.set hbw (p := ⟨g, q * 5, none⟩) (by simp only; omega) (.int .i64 s10)
                  have hql2 : q < l2.length := by omega
                  replace hlen2 := hide hlen2
                  obtain ⟨w29, hwn⟩ : ∃ x, x = (w26).setCell ⟨g, q * 5, none⟩ (.int .i64 s10) := ⟨_, rfl⟩
                  rw [← hwn] at hown2 hoB2 ⊢
                  clear hwn
                  refine tree_n rfl rfl _ rfl _ rfl ?_
                  try go_simp
                  refine tree_p rfl rfl rfl rfl _ rfl (by simp) (fun K hK => ?_)
                  apply Exists.intro
                  refine ⟨fun wq K' hK' => ?_, ?_⟩
                  · go_wp2_with fail
                    exact hK'
                  go_simp
                  refine hK _ ?_
                  clear hK K
                  refine tree_e0 (by kernel_rfl) rfl rfl (fun K hK => ?_)
                  have f1 := hown2.frozen (q * 5 + 1)
                  obtain ⟨cq, rfl, hc⟩ := hown2.cell_at (by decide) hql2
                  have c1 : w29.cell? ⟨g, q * 5 + 1, none⟩ = some (.int .i64 l2[q].kind) := hc 1 _ rfl
                  clear hc
                  go_wp2_with fail
                  try go_simp
                  refine hK _ _ trivial ?_
                  clear hK K
                  obtain ⟨l3, hown3, hlen3⟩ : ∃ x : List Ev, Own ((w29).setCell ⟨g, q * 5+ 1, none⟩ (.int .i64 s12)) w1.heap.size 60 (some ⟨g, 0, none⟩) c' x ∧ x.length = l.length := ⟨_, Own.set_ev1 hown2 hql2 s12, by rw [List.length_set]; exact hlen2.out⟩
                  have hoB3 := hoB2.set hbw (p := ⟨g, q * 5+ 1, none⟩) (by simp only; omega) (.int .i64 s12)
                  have hql3 : q < l3.length := by omega
                  replace hlen3 := hide hlen3
                  obtain ⟨w32, hwn⟩ : ∃ x, x = (w29).setCell ⟨g, q * 5+ 1, none⟩ (.int .i64 s12) := ⟨_, rfl⟩
                  rw [← hwn] at hown3 hoB3 ⊢
                  clear hwn
                  refine tree_n rfl rfl _ rfl _ rfl ?_
                  try go_simp
                  refine tree_p rfl rfl rfl rfl _ rfl (by simp) (fun K hK => ?_)
                  apply Exists.intro
                  refine ⟨fun wq K' hK' => ?_, ?_⟩
                  · go_wp2_with fail
                    exact hK'
                  go_simp
                  refine hK _ ?_
                  clear hK K
                  refine tree_e0 (by kernel_rfl) rfl rfl (fun K hK => ?_)
                  have f2 := hown3.frozen (q * 5 + 2)
                  obtain ⟨cq, rfl, hc⟩ := hown3.cell_at (by decide) hql3
                  have c2 : w32.cell? ⟨g, q * 5 + 2, none⟩ = some (.string l3[q].pr) := hc 2 _ rfl
                  clear hc
                  go_wp2_with fail
                  try go_simp
                  refine hK _ _ trivial ?_
                  clear hK K
                  obtain ⟨l4, hown4, hlen4⟩ : ∃ x : List Ev, Own ((w32).setCell ⟨g, q * 5+ 2, none⟩ (.string s19)) w1.heap.size 60 (some ⟨g, 0, none⟩) c' x ∧ x.length = l.length := ⟨_, Own.set_ev2 hown3 hql3 s19, by rw [List.length_set]; exact hlen3.out⟩
                  have hoB4 := hoB3.set hbw (p := ⟨g, q * 5+ 2, none⟩) (by simp only; omega) (.string s19)
                  have hql4 : q < l4.length := by omega
                  replace hlen4 := hide hlen4
                  obtain ⟨w35, hwn⟩ : ∃ x, x = (w32).setCell ⟨g, q * 5+ 2, none⟩ (.string s19) := ⟨_, rfl⟩
                  rw [← hwn] at hown4 hoB4 ⊢
                  clear hwn
                  refine tree_n rfl rfl _ rfl _ rfl ?_
                  try go_simp
                  refine tree_p rfl rfl rfl rfl _ rfl (by simp) (fun K hK => ?_)
                  apply Exists.intro
                  refine ⟨fun wq K' hK' => ?_, ?_⟩
                  · go_wp2_with fail
                    exact hK'
                  go_simp
                  refine hK _ ?_
                  clear hK K
                  refine tree_e0 (by kernel_rfl) rfl rfl (fun K hK => ?_)
                  have f3 := hown4.frozen (q * 5 + 3)
                  obtain ⟨cq, rfl, hc⟩ := hown4.cell_at (by decide) hql4
                  have c3 : w35.cell? ⟨g, q * 5 + 3, none⟩ = some (.string l4[q].job) := hc 3 _ rfl
                  clear hc
                  go_wp2_with fail
                  try go_simp
                  refine hK _ _ trivial ?_
                  clear hK K
                  refine tree_done ?_
                  obtain ⟨l5, hown5, hlen5⟩ : ∃ x : List Ev, Own ((w35).setCell ⟨g, q * 5+ 3, none⟩ (.string s26)) w1.heap.size 60 (some ⟨g, 0, none⟩) c' x ∧ x.length = l.length := ⟨_, Own.set_ev3 hown4 hql4 s26, by rw [List.length_set]; exact hlen4.out⟩
                  have hoB5 := hoB4.set hbw (p := ⟨g, q * 5+ 3, none⟩) (by simp only; omega) (.string s26)
                  have hql5 : q < l5.length := by omega
                  replace hlen5 := hide hlen5
                  obtain ⟨w38, hwn⟩ : ∃ x, x = (w35).setCell ⟨g, q * 5+ 3, none⟩ (.string s26) := ⟨_, rfl⟩
                  rw [← hwn] at hown5 hoB5 ⊢
                  clear hwn
                  rw [← hlen5.out]
                  have hl5 : l5.length ≤ 16 := by have := hlen5.out; omega
                  clear hlen5 hlen4 hlen3 hlen2 hown hown2 hown3 hown4 hoB hoB2 hoB3 hoB4
                  go_wp2_with fail
                  go_ret
                  exact ⟨l5, _, _, rfl, hown5.sl.mono (by omega), hl5, hown5.cap, hoB5.mono (by omega)⟩
              · refine tree_e rfl rfl (fun K hK => ?_)
                go_wp2_with fail
                try go_simp
                refine hK _ _ ((hown.pure (gr_alloc (World.grownBy.refl _ _) _))) ?_
                clear hK K
                obtain ⟨w18, hw18⟩ : ∃ x, x = (w25).alloc (.cells [.string l[q].pr, .string ⟨#[122, 122]⟩, .string ⟨#[]⟩].toArray 9) := ⟨_, rfl⟩
                have hg18 : (w25).grownBy w18 none := by rw [hw18]; exact gr_alloc (World.grownBy.refl _ _) _
                have hb18 : Box w18 (w25).heap.size 9 [.string l[q].pr, .string ⟨#[122, 122]⟩, .string ⟨#[]⟩] := by rw [hw18]; exact Box.new _ _ _
                rw [← hw18]
                clear hw18
                obtain ⟨x18, hx18⟩ : ∃ x, x = (w25).heap.size := ⟨_, rfl⟩
                rw [← hx18] at hb18 ⊢
                have hxl18 : (w25).heap.size ≤ x18 := by omega
                clear hx18
                have hbx18 : b < x18 := by have := hoB.lt; omega
                replace hoB := hoB.pure hg18
                replace hown := hown.pure hg18
                replace hb25 := hb25.pure hg18
                refine tree_e rfl rfl (fun K hK => ?_)
                go_wp2_with fail
                try go_simp
                refine hK _ _ ((hown.pure (gr_alloc (World.grownBy.refl _ _) _))) ?_
                clear hK K
                obtain ⟨w9, hw9⟩ : ∃ x, x = (w18).alloc (.cells [.int .i64 l[q].at_, .int .i64 (-1), .int .i64 0].toArray 3) := ⟨_, rfl⟩
                have hg9 : (w18).grownBy w9 none := by rw [hw9]; exact gr_alloc (World.grownBy.refl _ _) _
                have hb9 : Box w9 (w18).heap.size 3 [.int .i64 l[q].at_, .int .i64 (-1), .int .i64 0] := by rw [hw9]; exact Box.new _ _ _
                rw [← hw9]
                clear hw9
                obtain ⟨x9, hx9⟩ : ∃ x, x = (w18).heap.size := ⟨_, rfl⟩
                rw [← hx9] at hb9 ⊢
                have hxl9 : (w18).heap.size ≤ x9 := by omega
                clear hx9
                have hbx9 : b < x9 := by have := hoB.lt; omega
                replace hoB := hoB.pure hg9
                replace hown := hown.pure hg9
                replace hb18 := hb18.pure hg9
                replace hb25 := hb25.pure hg9
                refine tree_e rfl rfl (fun K hK => ?_)
                go_wp2_with fail
                refine (pick_any b _ _ _ _ [l[q].at_, -1, 0] w9 hoB.2 (by omega) (hb9.sl (row_ints _ _ _) (by omega) (by simp [maxLen])) rfl (by simp)).mono ?_
                rintro e w10 ⟨s10, rfl, _, ho10⟩
                go_wp2_with fail
                try go_simp
                refine hK _ _ ((hown.s ho10 hb1)) ?_
                clear hK K
                replace hoB := hoB.trans ho10
                replace hown := hown.s ho10 hb1
                replace hb18 := hb18.gr ho10.1 (fun e => by injection e; omega)
                replace hb25 := hb25.gr ho10.1 (fun e => by injection e; omega)
                refine tree_e rfl rfl (fun K hK => ?_)
                go_wp2_with fail
                refine (odd_any b _ _ _ w10 hoB.2 (by omega) (by omega) (by omega) (by omega)).mono ?_
                rintro e w12 ⟨s12, rfl, _, ho12⟩
                go_wp2_with fail
                try go_simp
                refine hK _ _ ((hown.s ho12 hb1)) ?_
                clear hK K
                replace hoB := hoB.trans ho12
                replace hown := hown.s ho12 hb1
                replace hb18 := hb18.gr ho12.1 (fun e => by injection e; omega)
                replace hb25 := hb25.gr ho12.1 (fun e => by injection e; omega)
                refine tree_e rfl rfl (fun K hK => ?_)
                go_wp2_with fail
                refine (some_any b _ _ _ _ [l[q].pr, ⟨#[122, 122]⟩, ⟨#[]⟩] w12 hoB.2 (by omega) (hb18.sl (row_strs _ _ _) (by omega) (by simp [maxLen])) rfl (by simp)).mono ?_
                rintro e w19 ⟨s19, rfl, ho19⟩
                go_wp2_with fail
                try go_simp
                refine hK _ _ ((hown.s ho19 hb1)) ?_
                clear hK K
                replace hoB := hoB.trans ho19
                replace hown := hown.s ho19 hb1
                replace hb25 := hb25.gr ho19.1 (fun e => by injection e; omega)
                refine tree_e0 (by kernel_rfl) rfl rfl (fun K hK => ?_)
                go_wp2_with fail
                refine (some_any b _ _ _ _ [l[q].job, ⟨#[74]⟩, ⟨#[106, 49]⟩] w19 hoB.2 (by omega) (hb25.sl (row_strs _ _ _) (by omega) (by simp [maxLen])) rfl (by simp)).mono ?_
                rintro e w26 ⟨s26, rfl, ho26⟩
                go_wp2_with fail
                try go_simp
                refine hK _ _ trivial ?_
                clear hK K
                replace hoB := hoB.trans ho26
                replace hown := hown.s ho26 hb1
                refine tree_n rfl rfl _ rfl _ rfl ?_
                try go_simp
                refine tree_p rfl rfl rfl rfl _ rfl (by simp) (fun K hK => ?_)
                apply Exists.intro
                refine ⟨fun wq K' hK' => ?_, ?_⟩
                · go_wp2_with fail
                  exact hK'
                go_simp
                refine hK _ ?_
                clear hK K
                refine tree_e0 (by kernel_rfl) rfl rfl (fun K hK => ?_)
                have f0 := hown.frozen (q * 5)
                obtain ⟨cq, rfl, hc⟩ := hown.cell_at (by decide) hql
                have c0 : w26.cell? ⟨g, q * 5, none⟩ = some (.int .i64 l[q].at_) := hc 0 _ rfl
                clear hc
                go_wp2_with fail
                try go_simp
                refine hK _ _ trivial ?_
                clear hK K
                obtain ⟨l2, hown2, hlen2⟩ : ∃ x : List Ev, Own ((w26).setCell ⟨g, q * 5, none⟩ (.int .i64 s10)) w1.heap.size 60 (some ⟨g, 0, none⟩) c' x ∧ x.length = l.length := ⟨_, Own.set_ev0 hown hql s10, by rw [List.length_set]; skip⟩
                have hoB2 := hoB.set hbw (p := ⟨g, q * 5, none⟩) (by simp only; omega) (.int .i64 s10)
                have hql2 : q < l2.length := by omega
                replace hlen2 := hide hlen2
                obtain ⟨w29, hwn⟩ : ∃ x, x = (w26).setCell ⟨g, q * 5, none⟩ (.int .i64 s10) := ⟨_, rfl⟩
                rw [← hwn] at hown2 hoB2 ⊢
                clear hwn
                refine tree_n rfl rfl _ rfl _ rfl ?_
                try go_simp
                refine tree_p rfl rfl rfl rfl _ rfl (by simp) (fun K hK => ?_)
                apply Exists.intro
                refine ⟨fun wq K' hK' => ?_, ?_⟩
                · go_wp2_with fail
                  exact hK'
                go_simp
                refine hK _ ?_
                clear hK K
                refine tree_e0 (by kernel_rfl) rfl rfl (fun K hK => ?_)
                have f1 := hown2.frozen (q * 5 + 1)
                obtain ⟨cq, rfl, hc⟩ := hown2.cell_at (by decide) hql2
                have c1 : w29.cell? ⟨g, q * 5 + 1, none⟩ = some (.int .i64 l2[q].kind) := hc 1 _ rfl
                clear hc
                go_wp2_with fail
                try go_simp
                refine hK _ _ trivial ?_
                clear hK K
                obtain ⟨l3, hown3, hlen3⟩ : ∃ x : List Ev, Own ((w29).setCell ⟨g, q * 5+ 1, none⟩ (.int .i64 s12)) w1.heap.size 60 (some ⟨g, 0, none⟩) c' x ∧ x.length = l.length := ⟨_, Own.set_ev1 hown2 hql2 s12, by rw [List.length_set]; exact hlen2.out⟩
                have hoB3 := hoB2.set hbw (p := ⟨g, q * 5+ 1, none⟩) (by simp only; omega) (.int .i64 s12)
                have hql3 : q < l3.length := by omega
                replace hlen3 := hide hlen3
                obtain ⟨w32, hwn⟩ : ∃ x, x = (w29).setCell ⟨g, q * 5+ 1, none⟩ (.int .i64 s12) := ⟨_, rfl⟩
                rw [← hwn] at hown3 hoB3 ⊢
                clear hwn
                refine tree_n rfl rfl _ rfl _ rfl ?_
                try go_simp
                refine tree_p rfl rfl rfl rfl _ rfl (by simp) (fun K hK => ?_)
                apply Exists.intro
                refine ⟨fun wq K' hK' => ?_, ?_⟩
                · go_wp2_with fail
                  exact hK'
                go_simp
                refine hK _ ?_
                clear hK K
                refine tree_e0 (by kernel_rfl) rfl rfl (fun K hK => ?_)
                have f2 := hown3.frozen (q * 5 + 2)
                obtain ⟨cq, rfl, hc⟩ := hown3.cell_at (by decide) hql3
                have c2 : w32.cell? ⟨g, q * 5 + 2, none⟩ = some (.string l3[q].pr) := hc 2 _ rfl
                clear hc
                go_wp2_with fail
                try go_simp
                refine hK _ _ trivial ?_
                clear hK K
                obtain ⟨l4, hown4, hlen4⟩ : ∃ x : List Ev, Own ((w32).setCell ⟨g, q * 5+ 2, none⟩ (.string s19)) w1.heap.size 60 (some ⟨g, 0, none⟩) c' x ∧ x.length = l.length := ⟨_, Own.set_ev2 hown3 hql3 s19, by rw [List.length_set]; exact hlen3.out⟩
                have hoB4 := hoB3.set hbw (p := ⟨g, q * 5+ 2, none⟩) (by simp only; omega) (.string s19)
                have hql4 : q < l4.length := by omega
                replace hlen4 := hide hlen4
                obtain ⟨w35, hwn⟩ : ∃ x, x = (w32).setCell ⟨g, q * 5+ 2, none⟩ (.string s19) := ⟨_, rfl⟩
                rw [← hwn] at hown4 hoB4 ⊢
                clear hwn
                refine tree_n rfl rfl _ rfl _ rfl ?_
                try go_simp
                refine tree_p rfl rfl rfl rfl _ rfl (by simp) (fun K hK => ?_)
                apply Exists.intro
                refine ⟨fun wq K' hK' => ?_, ?_⟩
                · go_wp2_with fail
                  exact hK'
                go_simp
                refine hK _ ?_
                clear hK K
                refine tree_e0 (by kernel_rfl) rfl rfl (fun K hK => ?_)
                have f3 := hown4.frozen (q * 5 + 3)
                obtain ⟨cq, rfl, hc⟩ := hown4.cell_at (by decide) hql4
                have c3 : w35.cell? ⟨g, q * 5 + 3, none⟩ = some (.string l4[q].job) := hc 3 _ rfl
                clear hc
                go_wp2_with fail
                try go_simp
                refine hK _ _ trivial ?_
                clear hK K
                refine tree_done ?_
                obtain ⟨l5, hown5, hlen5⟩ : ∃ x : List Ev, Own ((w35).setCell ⟨g, q * 5+ 3, none⟩ (.string s26)) w1.heap.size 60 (some ⟨g, 0, none⟩) c' x ∧ x.length = l.length := ⟨_, Own.set_ev3 hown4 hql4 s26, by rw [List.length_set]; exact hlen4.out⟩
                have hoB5 := hoB4.set hbw (p := ⟨g, q * 5+ 3, none⟩) (by simp only; omega) (.string s26)
                have hql5 : q < l5.length := by omega
                replace hlen5 := hide hlen5
                obtain ⟨w38, hwn⟩ : ∃ x, x = (w35).setCell ⟨g, q * 5+ 3, none⟩ (.string s26) := ⟨_, rfl⟩
                rw [← hwn] at hown5 hoB5 ⊢
                clear hwn
                rw [← hlen5.out]
                have hl5 : l5.length ≤ 16 := by have := hlen5.out; omega
                clear hlen5 hlen4 hlen3 hlen2 hown hown2 hown3 hown4 hoB hoB2 hoB3 hoB4
                go_wp2_with fail
                go_ret
                exact ⟨l5, _, _, rfl, hown5.sl.mono (by omega), hl5, hown5.cap, hoB5.mono (by omega)⟩
      · have hl0 : l = [] := List.eq_nil_of_length_eq_zero (by omega)
        subst hl0
        go_wp2_with fail
        go_ret
        exact ⟨[], _, _, rfl, hown.sl.mono (by omega), by simp, hown.cap, hoB.mono (by omega)⟩

end Go.Proofs.YtanioobepfllgaaGreatDoor

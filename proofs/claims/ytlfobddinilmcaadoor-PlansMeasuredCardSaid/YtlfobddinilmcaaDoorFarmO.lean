/- Contracts of functions that this seat's laws reach, each: what one call returns and what it leaves in memory; no condition beyond each theorem's own hypotheses. -/
import Derived.Test.YtlfobddinilmcaaDoorFarmN
import Derived.Test.YtlfobddinilmcaaDoorOrder
set_option linter.unusedVariables false
set_option linter.unusedSimpArgs false
namespace Go.Proofs.YtlfobddinilmcaaDoor
open Go Go.RowKit Go.Bl

def SLst {α : Type} [Enc α] (b : Nat) (N : Int) (M : Nat) (w : World) (e : Ending) (w' : World) : Prop := ∃ (l : List α) (A : Option Addr) (c : Nat), e = .returned (.slice A l.length c) ∧ Sl w' (b + 1) A l ∧ l.length ≤ M ∧ l.length ≤ c ∧ SOut b N w w'

theorem Own.set_prn0 {w : World} {lo : Nat} {e : TypeId} {g c : Nat} {l : List Prn} (h : Own w lo e (some ⟨g, 0, none⟩) c l) {i : Nat} (hi : i < l.length) (s : ByteArray) : Own (w.setCell ⟨g, i * 2, none⟩ (.string s)) lo e (some ⟨g, 0, none⟩) c (l.set i ⟨s, l[i].mat⟩) :=
  h.put hi (j := 0) (x := ⟨s, l[i].mat⟩) (u := .string s) (by decide) (by rintro c1 rfl; rfl)
theorem Own.set_prn1 {w : World} {lo : Nat} {e : TypeId} {g c : Nat} {l : List Prn} (h : Own w lo e (some ⟨g, 0, none⟩) c l) {i : Nat} (hi : i < l.length) (s : ByteArray) : Own (w.setCell ⟨g, i * 2 + 1, none⟩ (.string s)) lo e (some ⟨g, 0, none⟩) c (l.set i ⟨l[i].key, s⟩) :=
  h.put hi (j := 1) (x := ⟨l[i].key, s⟩) (u := .string s) (by decide) (by rintro c1 rfl; rfl)
def kWords : List ByteArray := [⟨#[112, 49]⟩, ⟨#[112, 50]⟩, ⟨#[112, 51]⟩]
/-- the words lie in a block -/
def KWs (L : List ByteArray) (w : World) (g : Nat) : Prop := g < w.heap.size ∧ ∀ i (h : i < L.length), w.cell? ⟨g, i, none⟩ = some (.string L[i])
section
variable {L : List ByteArray} {w w' : World} {g : Nat}
theorem KWs.new (L : List ByteArray) (w : World) (t : TypeId) : KWs L (w.alloc (.cells (L.map Value.string).toArray t)) w.heap.size :=
  ⟨by simp, fun i h => (Cell.new w (L.map Value.string) t i (.string L[i]) (by simp [h]) _ rfl).1⟩
theorem KWs.gr {r : Option Nat} (h : KWs L w g) (hg : w.grownBy w' r) (hr : r ≠ some g) : KWs L w' g := ⟨Nat.lt_of_lt_of_le h.1 hg.size, fun i hi => gr_cell hg (h.2 i hi) hr⟩
theorem KWs.upd {lo : Nat} (h : KWs L w g) (hu : Upd lo w w') (hl : g < lo) : KWs L w' g := by
  obtain ⟨r, hg, hr⟩ := hu
  exact h.gr hg (fun e => by have := hr g e; omega)
theorem KWs.lt (h : KWs L w g) : g < w.heap.size := h.1
end

set_option maxHeartbeats 4000000 in
set_option maxRecDepth 100000 in
theorem printerList_any (b : Nat) (N : Int) (n : Nat) (w : World) (hs : Strm w b N) (hN : N ≤ 1000000000) (hn : 1 ≤ n ∧ n ≤ 3) :
    Calls Tryd.prog 5 #[.pointer (some ⟨b, 0, none⟩), .int .i64 n] w (SLst (α := Prn) b (N + 20) 3 w) := by
  have hbw := hs.lt
  go_enter Tryd.func5, Tryd.ntmps5
  go_wp2_with fail
  refine (range_any b N _ _ _ (hs.pure (gr_alloc (World.grownBy.refl _ _) _)) (by omega) (by omega) (by omega) (by omega)).mono ?_
  rintro e w1 ⟨r, rfl, hr, ho1⟩
  obtain ⟨r, rfl⟩ := Int.eq_ofNat_of_zero_le (show 0 ≤ r by omega)
  have hL0 := KWs.new kWords w 9
  have hL := hL0.gr ho1.1 (fun e => by injection e; omega)
  have ho := (SOut.refl hs).al (.cells (kWords.map Value.string).toArray 9) |>.trans ho1
  have hr3 : (r : Int) ≤ 3 := by omega
  have hgs := ho1.size
  simp at hgs
  have hb1 : b < w1.heap.size := by omega
  have hsL : w.heap.size < w1.heap.size := by omega
  clear ho1 hL0
  go_wp2_with fail
  go_loopw [5, 15] (fun o i wr => ∃ (k : Nat) (l : List Prn) (A' : Option Addr) (c' : Nat), k ≤ r ∧ i = .int .i64 k ∧ o = .slice A' l.length c' ∧ Hid (l.length = k) ∧ Own wr w1.heap.size 64 A' c' l ∧ KWs kWords wr w.heap.size ∧ SOut b (N + 1 + k) w wr ∧ w1.heap.size ≤ wr.heap.size) (fun _ i _ => r - (intOf i).toNat)
  case atStart => exact ⟨0, [], none, 0, Nat.zero_le _, rfl, rfl, rfl, Own.nil _ _ _, hL, ho.mono (by omega), Nat.le_refl _⟩
  case round =>
    clear hL ho
    obtain ⟨k, l, A', c', hk, rfl, rfl, hlk, hown, hL, ho, hsz0⟩ := hrel
    by_cases hlt : k < r
    · have hk3 : k < kWords.length := by simp [kWords]; omega
      have c0 := hL.2 k hk3
      generalize kWords[k] = ky at *
      go_wp2_with fail
      refine (some_any b (N + 1 + k) _ _ _ [⟨#[112, 108, 97]⟩, ⟨#[112, 108, 97]⟩, ⟨#[112, 101, 116]⟩] _ (ho.2.pure (gr_alloc (World.grownBy.refl _ _) _)) (by omega) (sl_strsAt _ _ _ _ _ (by first | rfl | simp) (by have := ho.2.lt; omega) (by simp [maxLen])) rfl (by simp)).mono ?_
      rintro e w2 ⟨s1, rfl, ho2⟩
      have hg0 := gr_alloc (World.grownBy.refl wr none) (.cells #[.string ⟨#[112, 108, 97]⟩, .string ⟨#[112, 108, 97]⟩, .string ⟨#[112, 101, 116]⟩] 9)
      replace ho := (ho.pure hg0).trans ho2
      replace hown := (hown.pure hg0).s ho2 hb1
      replace hL := (hL.gr hg0 (by simp)).gr ho2.1 (fun e => by injection e; omega)
      have hsz := ho2.size
      simp at hsz
      clear ho2 hg0 c0
      have hll : l.length ≤ 3 := by have := hlk.out; omega
      have hlW := hL.lt
      go_wp2_with (at_builtin; obtain ⟨i0, hi, hz, hi1, hi2⟩ := info_parts info_prn; refine wpList_push (α := Prn) _ rfl (.tmp 19) (.tmp 25) _ rfl w1.heap.size 64 i0 _ 32 Tryd.underlying26 hi hz hi1 hi2 rfl _ _ _ l rfl ?c1 (by exact hown.pure (gr_alloc (World.grownBy.refl _ _) _)) 0 ⟨_, 0, none⟩ 1 1 [⟨ky, s1⟩] rfl rfl (by exact sl_oneAt _ 0 _ _ _ _ (by first | rfl | simp) (Nat.zero_le _) rfl) ?c2 ?c3 ?c4 ?_)
      case c1 => rfl
      case c2 => first | omega | (simp; omega)
      case c3 => first | (simp [maxLen]; omega) | (unfold maxLen; omega)
      case c4 => first | omega | (simp; omega)
      intro A5 c5 w5 hown5 hup5
      have hg1 := gr_alloc (World.grownBy.refl w2 none) (.cells #[.string ky, .string s1] 64)
      have ho5 := (ho.pure hg1).upd (lo := w1.heap.size) (by omega) hb1 hup5
      have hL5 := (hL.gr hg1 (by simp)).upd hup5 hsL
      have hsz5 := hup5.size
      simp at hsz5
      go_wp2
      (go_roundw; (case rel => exact ⟨k + 1, l ++ [⟨ky, s1⟩], A5, c5, by omega, by go_num, by simp, by simp [Hid, hlk.out], hown5, hL5, ho5.mono (by omega), by omega⟩); (case measure => simp [intOf]; omega))
    · have hl1 : 1 ≤ l.length ∧ l.length ≤ 3 := by have := hlk.out; omega
      have hoB : SOut b (N + 4) w wr := ho.mono (by omega)
      clear hL ho hlk hr
      go_wp2_with fail
      refine (flip_any b (N + 4) _ _ hoB.2 (by omega) (by omega)).mono ?_
      rintro e w2 ⟨f, rfl, ho2⟩
      replace hoB := hoB.trans ho2
      replace hown := hown.s ho2 hb1
      have hsz2 := ho2.size
      clear ho2
      cases f with
      | false =>
        go_wp2_with fail
        refine (flip_any b _ _ _ hoB.2 (by omega) (by omega)).mono ?_
        rintro e wt ⟨ft, rfl, hot⟩
        replace hoB := hoB.trans hot
        replace hown := hown.s hot hb1
        cases ft with
        | false =>
          go_wp2_with fail
          go_ret
          exact ⟨l, _, _, rfl, hown.sl.mono (by omega), hl1.2, hown.cap, hoB.mono (by omega)⟩
        | true =>
          go_wp2_with fail
          go_ret
          exact ⟨[], _, _, rfl, Sl.nil, by simp, by simp, hoB.mono (by omega)⟩
      | true =>
        go_wp2_with fail
        refine (next_any b (N + 4 + 1) _ _ hoB.2 (by omega) (by omega)).mono ?_
        rintro e w3 ⟨q, rfl, ⟨hq0, hq1⟩, ho3⟩
        obtain ⟨q, rfl⟩ := Int.eq_ofNat_of_zero_le hq0
        replace hoB := hoB.trans ho3
        replace hown := hown.s ho3 hb1
        have hql : q < l.length := by omega
        obtain ⟨g, rfl, hgl, -⟩ := hown.shape (by omega)
        clear ho3
        go_upto_region 9 with fail
        refine wp_region_tree (fun wx => Own wx w1.heap.size 64 (some ⟨g, 0, none⟩) c' l) [2, 2, 2, 2, 2, 2, 1, 0, 0, 2, 2, 2, 2, 1, 0, 0, 2, 2, 0, 2, 2, 0] (.bl 0 (.bl 1 (.bl 2 (.bl 3 (.bl 4 (.bl 5 (.bl 6 (.bl 9 (.bl 10 (.bl 11 (.bl 12 (.bl 13 (.alt (.ef 7 (.alt (.ef 8 (.ef 14 (.ef 15 (.bl 16 (.bl 17 (.ef 18 (.bl 19 (.bl 20 (.ef 21 .done))))))))) (.ef 14 (.ef 8 (.ef 15 (.bl 16 (.bl 17 (.ef 18 (.bl 19 (.bl 20 (.ef 21 .done))))))))))) (.ef 14 (.ef 7 (.ef 8 (.ef 15 (.bl 16 (.bl 17 (.ef 18 (.bl 19 (.bl 20 (.ef 21 .done))))))))))))))))))))))) (by kernel_rfl) (by kernel_rfl) (hown.pure (gr_drew (World.grownBy.refl _ _))) ?_
        obtain ⟨W1, hW1⟩ : ∃ x, x = (w3).drew := ⟨_, rfl⟩
        rw [← hW1]
        have hgW1 : (w3).grownBy W1 none := by rw [hW1]; exact gr_drew (World.grownBy.refl _ _)
        clear hW1
        replace hoB := hoB.pure hgW1
        replace hown := hown.pure hgW1
        refine tree_p rfl rfl rfl rfl _ rfl (by simp) (fun K hK => ?_)
        apply Exists.intro
        refine ⟨fun wq K' hK' => ?_, ?_⟩
        · go_wp2_with fail
          exact hK'
        go_simp
        refine hK _ ?_
        clear hK K
        refine tree_p rfl rfl rfl rfl _ rfl (by simp) (fun K hK => ?_)
        apply Exists.intro
        refine ⟨fun wq K' hK' => ?_, ?_⟩
        · go_wp2_with fail
          exact hK'
        go_simp
        refine hK _ ?_
        clear hK K
        refine tree_p rfl rfl rfl rfl _ rfl (by simp) (fun K hK => ?_)
        apply Exists.intro
        refine ⟨fun wq K' hK' => ?_, ?_⟩
        · go_wp2_with fail
          exact hK'
        go_simp
        refine hK _ ?_
        clear hK K
        refine tree_p rfl rfl rfl rfl _ rfl (by simp) (fun K hK => ?_)
        apply Exists.intro
        refine ⟨fun wq K' hK' => ?_, ?_⟩
        · go_wp2_with fail
          exact hK'
        go_simp
        refine hK _ ?_
        clear hK K
        refine tree_n rfl rfl _ rfl _ rfl ?_
        try go_simp
        refine tree_p rfl rfl rfl rfl _ rfl (by simp) (fun K hK => ?_)
        apply Exists.intro
        refine ⟨fun wq K' hK' => ?_, ?_⟩
        · go_wp2_with fail
          exact hK'
        go_simp
        refine hK _ ?_
        clear hK K
        refine tree_b rfl rfl rfl rfl _ rfl (by simp) (fun K hK => ?_)
        apply Exists.intro
        refine ⟨fun wq hq K' hK' => ?_, ?_⟩
        · obtain ⟨cq, rfl, hc⟩ := hq.cell_at (by decide) hql
          have c0 : wq.cell? ⟨g, q * 2, none⟩ = some (.string l[q].key) := hc 0 _ rfl
          have c1 : wq.cell? ⟨g, q * 2 + 1, none⟩ = some (.string l[q].mat) := hc 1 _ rfl
          clear hc
          go_wp2_with fail
          exact hK'
        go_simp
        refine hK _ ?_
        clear hK K
        refine tree_p rfl rfl rfl rfl _ rfl (by simp) (fun K hK => ?_)
        apply Exists.intro
        refine ⟨fun wq K' hK' => ?_, ?_⟩
        · go_wp2_with fail
          exact hK'
        go_simp
        refine hK _ ?_
        clear hK K
        refine tree_p rfl rfl rfl rfl _ rfl (by simp) (fun K hK => ?_)
        apply Exists.intro
        refine ⟨fun wq K' hK' => ?_, ?_⟩
        · go_wp2_with fail
          exact hK'
        go_simp
        refine hK _ ?_
        clear hK K
        refine tree_n rfl rfl _ rfl _ rfl ?_
        try go_simp
        refine tree_p rfl rfl rfl rfl _ rfl (by simp) (fun K hK => ?_)
        apply Exists.intro
        refine ⟨fun wq K' hK' => ?_, ?_⟩
        · go_wp2_with fail
          exact hK'
        go_simp
        refine hK _ ?_
        clear hK K
        refine tree_b rfl rfl rfl rfl _ rfl (by simp) (fun K hK => ?_)
        apply Exists.intro
        refine ⟨fun wq hq K' hK' => ?_, ?_⟩
        · obtain ⟨cq, rfl, hc⟩ := hq.cell_at (by decide) hql
          have c0 : wq.cell? ⟨g, q * 2, none⟩ = some (.string l[q].key) := hc 0 _ rfl
          have c1 : wq.cell? ⟨g, q * 2 + 1, none⟩ = some (.string l[q].mat) := hc 1 _ rfl
          clear hc
          go_wp2_with fail
          exact hK'
        go_simp
        refine hK _ ?_
        clear hK K
        refine tree_alt ?_ ?_
        · refine tree_e rfl rfl (fun K hK => ?_)
          go_wp2_with fail
          try go_simp
          refine hK _ _ ((hown.pure (gr_alloc (World.grownBy.refl _ _) _))) ?_
          clear hK K
          obtain ⟨w7, hw7⟩ : ∃ x, x = (W1).alloc (.cells [.string l[q].key, .string ⟨#[]⟩, .string ⟨#[112, 49]⟩].toArray 9) := ⟨_, rfl⟩
          have hg7 : (W1).grownBy w7 none := by rw [hw7]; exact gr_alloc (World.grownBy.refl _ _) _
          have hb7 : Box w7 (W1).heap.size 9 [.string l[q].key, .string ⟨#[]⟩, .string ⟨#[112, 49]⟩] := by rw [hw7]; exact Box.new _ _ _
          rw [← hw7]
          clear hw7
          obtain ⟨x7, hx7⟩ : ∃ x, x = (W1).heap.size := ⟨_, rfl⟩
          rw [← hx7] at hb7 ⊢
          have hxl7 : (W1).heap.size ≤ x7 := by omega
          clear hx7
          have hbx7 : b < x7 := by have := hoB.lt; omega
          replace hoB := hoB.pure hg7
          replace hown := hown.pure hg7
          refine tree_alt ?_ ?_
          · refine tree_e rfl rfl (fun K hK => ?_)
            go_wp2_with fail
            refine (some_any b _ _ _ _ [l[q].key, ⟨#[]⟩, ⟨#[112, 49]⟩] w7 hoB.2 (by omega) (hb7.sl (row_strs _ _ _) (by omega) (by simp [maxLen])) rfl (by simp)).mono ?_
            rintro e w8 ⟨s8, rfl, ho8⟩
            go_wp2_with fail
            try go_simp
            refine hK _ _ ((hown.s ho8 hb1)) ?_
            clear hK K
            replace hoB := hoB.trans ho8
            replace hown := hown.s ho8 hb1
            refine tree_e rfl rfl (fun K hK => ?_)
            go_wp2_with fail
            try go_simp
            refine hK _ _ ((hown.pure (gr_alloc (World.grownBy.refl _ _) _))) ?_
            clear hK K
            obtain ⟨w14, hw14⟩ : ∃ x, x = (w8).alloc (.cells [.string l[q].mat, .string ⟨#[]⟩].toArray 9) := ⟨_, rfl⟩
            have hg14 : (w8).grownBy w14 none := by rw [hw14]; exact gr_alloc (World.grownBy.refl _ _) _
            have hb14 : Box w14 (w8).heap.size 9 [.string l[q].mat, .string ⟨#[]⟩] := by rw [hw14]; exact Box.new _ _ _
            rw [← hw14]
            clear hw14
            obtain ⟨x14, hx14⟩ : ∃ x, x = (w8).heap.size := ⟨_, rfl⟩
            rw [← hx14] at hb14 ⊢
            have hxl14 : (w8).heap.size ≤ x14 := by omega
            clear hx14
            have hbx14 : b < x14 := by have := hoB.lt; omega
            replace hoB := hoB.pure hg14
            replace hown := hown.pure hg14
            refine tree_e0 (by kernel_rfl) rfl rfl (fun K hK => ?_)
            go_wp2_with fail
            refine (some_any b _ _ _ _ [l[q].mat, ⟨#[]⟩] w14 hoB.2 (by omega) (hb14.sl (row_strs _ _ _) (by omega) (by simp [maxLen])) rfl (by simp)).mono ?_
            rintro e w15 ⟨s15, rfl, ho15⟩
            go_wp2_with fail
            try go_simp
            refine hK _ _ trivial ?_
            clear hK K
            replace hoB := hoB.trans ho15
            replace hown := hown.s ho15 hb1
            refine tree_n rfl rfl _ rfl _ rfl ?_
            try go_simp
            refine tree_p rfl rfl rfl rfl _ rfl (by simp) (fun K hK => ?_)
            apply Exists.intro
            refine ⟨fun wq K' hK' => ?_, ?_⟩
            · go_wp2_with fail
              exact hK'
            go_simp
            refine hK _ ?_
            clear hK K
            refine tree_e0 (by kernel_rfl) rfl rfl (fun K hK => ?_)
            have f0 := hown.frozen (q * 2)
            obtain ⟨cq, rfl, hc⟩ := hown.cell_at (by decide) hql
            have c0 : w15.cell? ⟨g, q * 2, none⟩ = some (.string l[q].key) := hc 0 _ rfl
            clear hc
            go_wp2_with fail
            try go_simp
            refine hK _ _ trivial ?_
            clear hK K
            have hown2 := Own.set_prn0 hown hql s8
            have hoB2 := hoB.set hbw (p := ⟨g, q * 2, none⟩) (by simp only; omega) (.string s8)
            have hlen2 : (l.set q ⟨s8, l[q].mat⟩).length = l.length := by simp
            obtain ⟨l2, hl2⟩ : ∃ l2, l2 = l.set q ⟨s8, l[q].mat⟩ := ⟨_, rfl⟩
            rw [← hl2] at hown2 hlen2
            have hql2 : q < l2.length := by omega
            replace hlen2 := hide hlen2
            clear hl2
            obtain ⟨w18, hw18⟩ : ∃ x, x = w15.setCell ⟨g, q * 2, none⟩ (.string s8) := ⟨_, rfl⟩
            rw [← hw18] at hown2 hoB2 ⊢
            clear hw18
            refine tree_n rfl rfl _ rfl _ rfl ?_
            try go_simp
            refine tree_p rfl rfl rfl rfl _ rfl (by simp) (fun K hK => ?_)
            apply Exists.intro
            refine ⟨fun wq K' hK' => ?_, ?_⟩
            · go_wp2_with fail
              exact hK'
            go_simp
            refine hK _ ?_
            clear hK K
            refine tree_e0 (by kernel_rfl) rfl rfl (fun K hK => ?_)
            have f1 := hown2.frozen (q * 2 + 1)
            obtain ⟨cq, rfl, hc⟩ := hown2.cell_at (by decide) hql2
            have c1 : w18.cell? ⟨g, q * 2 + 1, none⟩ = some (.string l2[q].mat) := hc 1 _ rfl
            clear hc
            go_wp2_with fail
            try go_simp
            refine hK _ _ trivial ?_
            clear hK K
            refine tree_done ?_
            have hown3 := Own.set_prn1 hown2 hql2 s15
            have hoB3 := hoB2.set hbw (p := ⟨g, q * 2 + 1, none⟩) (by simp only; omega) (.string s15)
            have hlen3 : (l2.set q ⟨l2[q].key, s15⟩).length = l.length := by simp [hlen2.out]
            obtain ⟨l3, hl3⟩ : ∃ l3, l3 = l2.set q ⟨l2[q].key, s15⟩ := ⟨_, rfl⟩
            rw [← hl3] at hown3 hlen3
            replace hlen3 := hide hlen3
            clear hl3
            obtain ⟨w21, hw21⟩ : ∃ x, x = w18.setCell ⟨g, q * 2 + 1, none⟩ (.string s15) := ⟨_, rfl⟩
            rw [← hw21] at hown3 hoB3 ⊢
            clear hw21
            rw [← hlen3.out] at hl1 ⊢
            clear c1 f1 hlen3 hown hown2 hoB hoB2 hlen2
            go_wp2_with fail
            refine (flip_any b _ _ _ hoB3.2 (by omega) (by omega)).mono ?_
            rintro e wt ⟨ft, rfl, hot⟩
            replace hoB3 := hoB3.trans hot
            replace hown3 := hown3.s hot hb1
            cases ft with
            | false =>
              go_wp2_with fail
              go_ret
              exact ⟨l3, _, _, rfl, hown3.sl.mono (by omega), hl1.2, hown3.cap, hoB3.mono (by omega)⟩
            | true =>
              go_wp2_with fail
              go_ret
              exact ⟨[], _, _, rfl, Sl.nil, by simp, by simp, hoB3.mono (by omega)⟩
          · refine tree_e rfl rfl (fun K hK => ?_)
            go_wp2_with fail
            try go_simp
            refine hK _ _ ((hown.pure (gr_alloc (World.grownBy.refl _ _) _))) ?_
            clear hK K
            obtain ⟨w14, hw14⟩ : ∃ x, x = (w7).alloc (.cells [.string l[q].mat, .string ⟨#[]⟩].toArray 9) := ⟨_, rfl⟩
            have hg14 : (w7).grownBy w14 none := by rw [hw14]; exact gr_alloc (World.grownBy.refl _ _) _
            have hb14 : Box w14 (w7).heap.size 9 [.string l[q].mat, .string ⟨#[]⟩] := by rw [hw14]; exact Box.new _ _ _
            rw [← hw14]
            clear hw14
            obtain ⟨x14, hx14⟩ : ∃ x, x = (w7).heap.size := ⟨_, rfl⟩
            rw [← hx14] at hb14 ⊢
            have hxl14 : (w7).heap.size ≤ x14 := by omega
            clear hx14
            have hbx14 : b < x14 := by have := hoB.lt; omega
            replace hoB := hoB.pure hg14
            replace hown := hown.pure hg14
            replace hb7 := hb7.pure hg14
            refine tree_e rfl rfl (fun K hK => ?_)
            go_wp2_with fail
            refine (some_any b _ _ _ _ [l[q].key, ⟨#[]⟩, ⟨#[112, 49]⟩] w14 hoB.2 (by omega) (hb7.sl (row_strs _ _ _) (by omega) (by simp [maxLen])) rfl (by simp)).mono ?_
            rintro e w8 ⟨s8, rfl, ho8⟩
            go_wp2_with fail
            try go_simp
            refine hK _ _ ((hown.s ho8 hb1)) ?_
            clear hK K
            replace hoB := hoB.trans ho8
            replace hown := hown.s ho8 hb1
            replace hb14 := hb14.gr ho8.1 (fun e => by injection e; omega)
            refine tree_e0 (by kernel_rfl) rfl rfl (fun K hK => ?_)
            go_wp2_with fail
            refine (some_any b _ _ _ _ [l[q].mat, ⟨#[]⟩] w8 hoB.2 (by omega) (hb14.sl (row_strs _ _ _) (by omega) (by simp [maxLen])) rfl (by simp)).mono ?_
            rintro e w15 ⟨s15, rfl, ho15⟩
            go_wp2_with fail
            try go_simp
            refine hK _ _ trivial ?_
            clear hK K
            replace hoB := hoB.trans ho15
            replace hown := hown.s ho15 hb1
            refine tree_n rfl rfl _ rfl _ rfl ?_
            try go_simp
            refine tree_p rfl rfl rfl rfl _ rfl (by simp) (fun K hK => ?_)
            apply Exists.intro
            refine ⟨fun wq K' hK' => ?_, ?_⟩
            · go_wp2_with fail
              exact hK'
            go_simp
            refine hK _ ?_
            clear hK K
            refine tree_e0 (by kernel_rfl) rfl rfl (fun K hK => ?_)
            have f0 := hown.frozen (q * 2)
            obtain ⟨cq, rfl, hc⟩ := hown.cell_at (by decide) hql
            have c0 : w15.cell? ⟨g, q * 2, none⟩ = some (.string l[q].key) := hc 0 _ rfl
            clear hc
            go_wp2_with fail
            try go_simp
            refine hK _ _ trivial ?_
            clear hK K
            have hown2 := Own.set_prn0 hown hql s8
            have hoB2 := hoB.set hbw (p := ⟨g, q * 2, none⟩) (by simp only; omega) (.string s8)
            have hlen2 : (l.set q ⟨s8, l[q].mat⟩).length = l.length := by simp
            obtain ⟨l2, hl2⟩ : ∃ l2, l2 = l.set q ⟨s8, l[q].mat⟩ := ⟨_, rfl⟩
            rw [← hl2] at hown2 hlen2
            have hql2 : q < l2.length := by omega
            replace hlen2 := hide hlen2
            clear hl2
            obtain ⟨w18, hw18⟩ : ∃ x, x = w15.setCell ⟨g, q * 2, none⟩ (.string s8) := ⟨_, rfl⟩
            rw [← hw18] at hown2 hoB2 ⊢
            clear hw18
            refine tree_n rfl rfl _ rfl _ rfl ?_
            try go_simp
            refine tree_p rfl rfl rfl rfl _ rfl (by simp) (fun K hK => ?_)
            apply Exists.intro
            refine ⟨fun wq K' hK' => ?_, ?_⟩
            · go_wp2_with fail
              exact hK'
            go_simp
            refine hK _ ?_
            clear hK K
            refine tree_e0 (by kernel_rfl) rfl rfl (fun K hK => ?_)
            have f1 := hown2.frozen (q * 2 + 1)
            obtain ⟨cq, rfl, hc⟩ := hown2.cell_at (by decide) hql2
            have c1 : w18.cell? ⟨g, q * 2 + 1, none⟩ = some (.string l2[q].mat) := hc 1 _ rfl
            clear hc
            go_wp2_with fail
            try go_simp
            refine hK _ _ trivial ?_
            clear hK K
            refine tree_done ?_
            have hown3 := Own.set_prn1 hown2 hql2 s15
            have hoB3 := hoB2.set hbw (p := ⟨g, q * 2 + 1, none⟩) (by simp only; omega) (.string s15)
            have hlen3 : (l2.set q ⟨l2[q].key, s15⟩).length = l.length := by simp [hlen2.out]
            obtain ⟨l3, hl3⟩ : ∃ l3, l3 = l2.set q ⟨l2[q].key, s15⟩ := ⟨_, rfl⟩
            rw [← hl3] at hown3 hlen3
            replace hlen3 := hide hlen3
            clear hl3
            obtain ⟨w21, hw21⟩ : ∃ x, x = w18.setCell ⟨g, q * 2 + 1, none⟩ (.string s15) := ⟨_, rfl⟩
            rw [← hw21] at hown3 hoB3 ⊢
            clear hw21
            rw [← hlen3.out] at hl1 ⊢
            clear c1 f1 hlen3 hown hown2 hoB hoB2 hlen2
            go_wp2_with fail
            refine (flip_any b _ _ _ hoB3.2 (by omega) (by omega)).mono ?_
            rintro e wt ⟨ft, rfl, hot⟩
            replace hoB3 := hoB3.trans hot
            replace hown3 := hown3.s hot hb1
            cases ft with
            | false =>
              go_wp2_with fail
              go_ret
              exact ⟨l3, _, _, rfl, hown3.sl.mono (by omega), hl1.2, hown3.cap, hoB3.mono (by omega)⟩
            | true =>
              go_wp2_with fail
              go_ret
              exact ⟨[], _, _, rfl, Sl.nil, by simp, by simp, hoB3.mono (by omega)⟩
        · refine tree_e rfl rfl (fun K hK => ?_)
          go_wp2_with fail
          try go_simp
          refine hK _ _ ((hown.pure (gr_alloc (World.grownBy.refl _ _) _))) ?_
          clear hK K
          obtain ⟨w14, hw14⟩ : ∃ x, x = (W1).alloc (.cells [.string l[q].mat, .string ⟨#[]⟩].toArray 9) := ⟨_, rfl⟩
          have hg14 : (W1).grownBy w14 none := by rw [hw14]; exact gr_alloc (World.grownBy.refl _ _) _
          have hb14 : Box w14 (W1).heap.size 9 [.string l[q].mat, .string ⟨#[]⟩] := by rw [hw14]; exact Box.new _ _ _
          rw [← hw14]
          clear hw14
          obtain ⟨x14, hx14⟩ : ∃ x, x = (W1).heap.size := ⟨_, rfl⟩
          rw [← hx14] at hb14 ⊢
          have hxl14 : (W1).heap.size ≤ x14 := by omega
          clear hx14
          have hbx14 : b < x14 := by have := hoB.lt; omega
          replace hoB := hoB.pure hg14
          replace hown := hown.pure hg14
          refine tree_e rfl rfl (fun K hK => ?_)
          go_wp2_with fail
          try go_simp
          refine hK _ _ ((hown.pure (gr_alloc (World.grownBy.refl _ _) _))) ?_
          clear hK K
          obtain ⟨w7, hw7⟩ : ∃ x, x = (w14).alloc (.cells [.string l[q].key, .string ⟨#[]⟩, .string ⟨#[112, 49]⟩].toArray 9) := ⟨_, rfl⟩
          have hg7 : (w14).grownBy w7 none := by rw [hw7]; exact gr_alloc (World.grownBy.refl _ _) _
          have hb7 : Box w7 (w14).heap.size 9 [.string l[q].key, .string ⟨#[]⟩, .string ⟨#[112, 49]⟩] := by rw [hw7]; exact Box.new _ _ _
          rw [← hw7]
          clear hw7
          obtain ⟨x7, hx7⟩ : ∃ x, x = (w14).heap.size := ⟨_, rfl⟩
          rw [← hx7] at hb7 ⊢
          have hxl7 : (w14).heap.size ≤ x7 := by omega
          clear hx7
          have hbx7 : b < x7 := by have := hoB.lt; omega
          replace hoB := hoB.pure hg7
          replace hown := hown.pure hg7
          replace hb14 := hb14.pure hg7
          refine tree_e rfl rfl (fun K hK => ?_)
          go_wp2_with fail
          refine (some_any b _ _ _ _ [l[q].key, ⟨#[]⟩, ⟨#[112, 49]⟩] w7 hoB.2 (by omega) (hb7.sl (row_strs _ _ _) (by omega) (by simp [maxLen])) rfl (by simp)).mono ?_
          rintro e w8 ⟨s8, rfl, ho8⟩
          go_wp2_with fail
          try go_simp
          refine hK _ _ ((hown.s ho8 hb1)) ?_
          clear hK K
          replace hoB := hoB.trans ho8
          replace hown := hown.s ho8 hb1
          replace hb14 := hb14.gr ho8.1 (fun e => by injection e; omega)
          refine tree_e0 (by kernel_rfl) rfl rfl (fun K hK => ?_)
          go_wp2_with fail
          refine (some_any b _ _ _ _ [l[q].mat, ⟨#[]⟩] w8 hoB.2 (by omega) (hb14.sl (row_strs _ _ _) (by omega) (by simp [maxLen])) rfl (by simp)).mono ?_
          rintro e w15 ⟨s15, rfl, ho15⟩
          go_wp2_with fail
          try go_simp
          refine hK _ _ trivial ?_
          clear hK K
          replace hoB := hoB.trans ho15
          replace hown := hown.s ho15 hb1
          refine tree_n rfl rfl _ rfl _ rfl ?_
          try go_simp
          refine tree_p rfl rfl rfl rfl _ rfl (by simp) (fun K hK => ?_)
          apply Exists.intro
          refine ⟨fun wq K' hK' => ?_, ?_⟩
          · go_wp2_with fail
            exact hK'
          go_simp
          refine hK _ ?_
          clear hK K
          refine tree_e0 (by kernel_rfl) rfl rfl (fun K hK => ?_)
          have f0 := hown.frozen (q * 2)
          obtain ⟨cq, rfl, hc⟩ := hown.cell_at (by decide) hql
          have c0 : w15.cell? ⟨g, q * 2, none⟩ = some (.string l[q].key) := hc 0 _ rfl
          clear hc
          go_wp2_with fail
          try go_simp
          refine hK _ _ trivial ?_
          clear hK K
          have hown2 := Own.set_prn0 hown hql s8
          have hoB2 := hoB.set hbw (p := ⟨g, q * 2, none⟩) (by simp only; omega) (.string s8)
          have hlen2 : (l.set q ⟨s8, l[q].mat⟩).length = l.length := by simp
          obtain ⟨l2, hl2⟩ : ∃ l2, l2 = l.set q ⟨s8, l[q].mat⟩ := ⟨_, rfl⟩
          rw [← hl2] at hown2 hlen2
          have hql2 : q < l2.length := by omega
          replace hlen2 := hide hlen2
          clear hl2
          obtain ⟨w18, hw18⟩ : ∃ x, x = w15.setCell ⟨g, q * 2, none⟩ (.string s8) := ⟨_, rfl⟩
          rw [← hw18] at hown2 hoB2 ⊢
          clear hw18
          refine tree_n rfl rfl _ rfl _ rfl ?_
          try go_simp
          refine tree_p rfl rfl rfl rfl _ rfl (by simp) (fun K hK => ?_)
          apply Exists.intro
          refine ⟨fun wq K' hK' => ?_, ?_⟩
          · go_wp2_with fail
            exact hK'
          go_simp
          refine hK _ ?_
          clear hK K
          refine tree_e0 (by kernel_rfl) rfl rfl (fun K hK => ?_)
          have f1 := hown2.frozen (q * 2 + 1)
          obtain ⟨cq, rfl, hc⟩ := hown2.cell_at (by decide) hql2
          have c1 : w18.cell? ⟨g, q * 2 + 1, none⟩ = some (.string l2[q].mat) := hc 1 _ rfl
          clear hc
          go_wp2_with fail
          try go_simp
          refine hK _ _ trivial ?_
          clear hK K
          refine tree_done ?_
          have hown3 := Own.set_prn1 hown2 hql2 s15
          have hoB3 := hoB2.set hbw (p := ⟨g, q * 2 + 1, none⟩) (by simp only; omega) (.string s15)
          have hlen3 : (l2.set q ⟨l2[q].key, s15⟩).length = l.length := by simp [hlen2.out]
          obtain ⟨l3, hl3⟩ : ∃ l3, l3 = l2.set q ⟨l2[q].key, s15⟩ := ⟨_, rfl⟩
          rw [← hl3] at hown3 hlen3
          replace hlen3 := hide hlen3
          clear hl3
          obtain ⟨w21, hw21⟩ : ∃ x, x = w18.setCell ⟨g, q * 2 + 1, none⟩ (.string s15) := ⟨_, rfl⟩
          rw [← hw21] at hown3 hoB3 ⊢
          clear hw21
          rw [← hlen3.out] at hl1 ⊢
          clear c1 f1 hlen3 hown hown2 hoB hoB2 hlen2
          go_wp2_with fail
          refine (flip_any b _ _ _ hoB3.2 (by omega) (by omega)).mono ?_
          rintro e wt ⟨ft, rfl, hot⟩
          replace hoB3 := hoB3.trans hot
          replace hown3 := hown3.s hot hb1
          cases ft with
          | false =>
            go_wp2_with fail
            go_ret
            exact ⟨l3, _, _, rfl, hown3.sl.mono (by omega), hl1.2, hown3.cap, hoB3.mono (by omega)⟩
          | true =>
            go_wp2_with fail
            go_ret
            exact ⟨[], _, _, rfl, Sl.nil, by simp, by simp, hoB3.mono (by omega)⟩
end Go.Proofs.YtlfobddinilmcaaDoor

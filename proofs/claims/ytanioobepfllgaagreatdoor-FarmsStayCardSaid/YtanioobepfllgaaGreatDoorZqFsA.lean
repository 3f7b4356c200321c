/- Contracts of functions that this seat's laws reach, each: what one call returns and what it leaves in memory; no condition beyond each theorem's own hypotheses. -/
import Derived.Test.YtanioobepfllgaaGreatDoorZqSpVD
import Derived.Test.YtanioobepfllgaaGreatDoorZqSpI
import Derived.Test.YtanioobepfllgaaGreatDoorZqGreData
import Derived.Test.YtanioobepfllgaaGreatDoorZqPrnBin
import Derived.Test.YtanioobepfllgaaGreatDoorZqEvSm
import Derived.Test.YtanioobepfllgaaGreatDoorZqPlnC
set_option linter.unusedVariables false
set_option linter.unusedSimpArgs false
namespace Go.Proofs.YtanioobepfllgaaGreatDoor
open Go Go.RowKit Go.Bl

set_option maxHeartbeats 400000 in
theorem clonePrn_any (A : Option Addr) (c : Nat) (l : List Prn) (w : World) (hl : Sl w 0 A l) (hlen : l.length ≤ 1000000) :
    Calls Tryz.prog 16 #[.slice A l.length c] w fun e w' => ∃ A' c', e = .returned (.slice A' l.length c') ∧ Own w' w.heap.size 46 A' c' l ∧ w.grownBy w' none := by
  obtain ⟨i0, hi, hz, h1, h2⟩ := info_parts info_prn
  have hq := fun W => Lib.run_eql_slice_nil (P := Tryz.prog) W 26 46 A l.length c 0 0 Tryz.underlying26
  rcases A with _ | ad
  · have hl0 : l = [] := by
      rcases Nat.eq_zero_or_pos l.length with h | h
      · exact List.eq_nil_of_length_eq_zero h
      · obtain ⟨g, o, cx, e, _⟩ := hl.at_ (by decide) h
        cases e
    subst hl0
    simp only [List.length_nil] at hq
    go_enter Tryz.func16, Tryz.ntmps16
    go_wp2_with fail
    go_ret
    exact ⟨none, 0, rfl, Own.nil _ _ _, World.grownBy.refl _ _⟩
  · go_enter Tryz.func16, Tryz.ntmps16
    go_wp2_with (at_builtin; refine wpList_push _ rfl (.tmp 5) (.tmp 6) _ rfl w.heap.size 46 i0 _ 32 Tryz.underlying26 hi hz h1 h2 rfl _ _ _ [] rfl rfl (by exact Own.empty _ _ _ (Nat.le_refl _)) 0 ad _ c l rfl rfl (by exact hl.pure (gr_alloc (World.grownBy.refl _ _) _)) ?c2 ?c3 ?c4 ?_)
    case c2 => simp; omega
    case c3 => simp [maxLen]; omega
    case c4 => simp
    intro A2 c2 w2 hown hup
    go_wp2
    go_ret
    exact ⟨A2, c2, rfl, hown, hup.gr (Nat.le_refl _) (gr_alloc (World.grownBy.refl _ _) _)⟩

set_option maxHeartbeats 400000 in
theorem cloneJb_any (A : Option Addr) (c : Nat) (l : List Jb) (w : World) (hl : Sl w 0 A l) (hlen : l.length ≤ 1000000) :
    Calls Tryz.prog 17 #[.slice A l.length c] w fun e w' => ∃ A' c', e = .returned (.slice A' l.length c') ∧ Own w' w.heap.size 49 A' c' l ∧ w.grownBy w' none := by
  obtain ⟨i0, hi, hz, h1, h2⟩ := info_parts info_jb
  have hq := fun W => Lib.run_eql_slice_nil (P := Tryz.prog) W 28 49 A l.length c 0 0 Tryz.underlying28
  rcases A with _ | ad
  · have hl0 : l = [] := by
      rcases Nat.eq_zero_or_pos l.length with h | h
      · exact List.eq_nil_of_length_eq_zero h
      · obtain ⟨g, o, cx, e, _⟩ := hl.at_ (by decide) h
        cases e
    subst hl0
    simp only [List.length_nil] at hq
    go_enter Tryz.func17, Tryz.ntmps17
    go_wp2_with fail
    go_ret
    exact ⟨none, 0, rfl, Own.nil _ _ _, World.grownBy.refl _ _⟩
  · go_enter Tryz.func17, Tryz.ntmps17
    go_wp2_with (at_builtin; refine wpList_push _ rfl (.tmp 5) (.tmp 6) _ rfl w.heap.size 49 i0 _ 48 Tryz.underlying28 hi hz h1 h2 rfl _ _ _ [] rfl rfl (by exact Own.empty _ _ _ (Nat.le_refl _)) 0 ad _ c l rfl rfl (by exact hl.pure (gr_alloc (World.grownBy.refl _ _) _)) ?c2 ?c3 ?c4 ?_)
    case c2 => simp; omega
    case c3 => simp [maxLen]; omega
    case c4 => simp
    intro A2 c2 w2 hown hup
    go_wp2
    go_ret
    exact ⟨A2, c2, rfl, hown, hup.gr (Nat.le_refl _) (gr_alloc (World.grownBy.refl _ _) _)⟩

set_option maxHeartbeats 400000 in
theorem cloneEv_any (A : Option Addr) (c : Nat) (l : List Ev) (w : World) (hl : Sl w 0 A l) (hlen : l.length ≤ 1000000) :
    Calls Tryz.prog 24 #[.slice A l.length c] w fun e w' => ∃ A' c', e = .returned (.slice A' l.length c') ∧ Own w' w.heap.size 60 A' c' l ∧ w.grownBy w' none := by
  obtain ⟨i0, hi, hz, h1, h2⟩ := info_parts info_ev
  have hq := fun W => Lib.run_eql_slice_nil (P := Tryz.prog) W 55 60 A l.length c 0 0 Tryz.underlying55
  rcases A with _ | ad
  · have hl0 : l = [] := by
      rcases Nat.eq_zero_or_pos l.length with h | h
      · exact List.eq_nil_of_length_eq_zero h
      · obtain ⟨g, o, cx, e, _⟩ := hl.at_ (by decide) h
        cases e
    subst hl0
    simp only [List.length_nil] at hq
    go_enter Tryz.func24, Tryz.ntmps24
    go_wp2_with fail
    go_ret
    exact ⟨none, 0, rfl, Own.nil _ _ _, World.grownBy.refl _ _⟩
  · go_enter Tryz.func24, Tryz.ntmps24
    go_wp2_with (at_builtin; refine wpList_push _ rfl (.tmp 5) (.tmp 6) _ rfl w.heap.size 60 i0 _ 64 Tryz.underlying55 hi hz h1 h2 rfl _ _ _ [] rfl rfl (by exact Own.empty _ _ _ (Nat.le_refl _)) 0 ad _ c l rfl rfl (by exact hl.pure (gr_alloc (World.grownBy.refl _ _) _)) ?c2 ?c3 ?c4 ?_)
    case c2 => simp; omega
    case c3 => simp [maxLen]; omega
    case c4 => simp
    intro A2 c2 w2 hown hup
    go_wp2
    go_ret
    exact ⟨A2, c2, rfl, hown, hup.gr (Nat.le_refl _) (gr_alloc (World.grownBy.refl _ _) _)⟩

set_option maxHeartbeats 400000 in
theorem cloneRows_any (A : Option Addr) (c : Nat) (l : List RawS) (w : World) (hl : Sl w 0 A l) (hlen : l.length ≤ 1000000) :
    Calls Tryz.prog 22 #[.slice A l.length c] w fun e w' => ∃ A' c', e = .returned (.slice A' l.length c') ∧ Own w' w.heap.size 22 A' c' l ∧ w.grownBy w' none := by
  obtain ⟨i0, hi, hz, h1, h2⟩ := info_parts info_intsR
  have hq := fun W => Lib.run_eql_slice_nil (P := Tryz.prog) W 31 22 A l.length c 0 0 Tryz.underlying31
  rcases A with _ | ad
  · have hl0 : l = [] := by
      rcases Nat.eq_zero_or_pos l.length with h | h
      · exact List.eq_nil_of_length_eq_zero h
      · obtain ⟨g, o, cx, e, _⟩ := hl.at_ (by decide) h
        cases e
    subst hl0
    simp only [List.length_nil] at hq
    go_enter Tryz.func22, Tryz.ntmps22
    go_wp2_with fail
    go_ret
    exact ⟨none, 0, rfl, Own.nil _ _ _, World.grownBy.refl _ _⟩
  · go_enter Tryz.func22, Tryz.ntmps22
    go_wp2_with (at_builtin; refine wpList_push _ rfl (.tmp 5) (.tmp 6) _ rfl w.heap.size 22 i0 _ 24 Tryz.underlying31 hi hz h1 h2 rfl _ _ _ [] rfl rfl (by exact Own.empty _ _ _ (Nat.le_refl _)) 0 ad _ c l rfl rfl (by exact hl.pure (gr_alloc (World.grownBy.refl _ _) _)) ?c2 ?c3 ?c4 ?_)
    case c2 => simp; omega
    case c3 => simp [maxLen]; omega
    case c4 => simp
    intro A2 c2 w2 hown hup
    go_wp2
    go_ret
    exact ⟨A2, c2, rfl, hown, hup.gr (Nat.le_refl _) (gr_alloc (World.grownBy.refl _ _) _)⟩

set_option maxHeartbeats 1600000 in
theorem samePrn_any (A : Option Addr) (c : Nat) (l : List Prn) (B : Option Addr) (d : Nat) (w : World) (hl : Sl w 0 A l) (hm : Sl w 0 B l) :
    Calls Tryz.prog 27 #[.slice A l.length c, .slice B l.length d] w fun e w' => e = .returned (.bool true) ∧ w.grownBy w' none := by
  have hm1 := hl.1
  unfold maxLen at hm1
  go_enter Tryz.func27, Tryz.ntmps27
  go_wp2
  go_loopw [13] (fun i wr => ∃ k : Nat, k ≤ l.length ∧ i = .int .i64 k ∧ w.grownBy wr none) (fun i _ => l.length - (intOf i).toNat)
  case atStart => exact ⟨0, Nat.zero_le _, rfl, World.grownBy.refl _ _⟩
  case round =>
    obtain ⟨k, hk, rfl, hg⟩ := hrel
    by_cases hlt : k < l.length
    · obtain ⟨g, o, cx, rfl, hb0, hb1, rfl, hc⟩ := (hl.pure hg).at_ (by decide) hlt
      have c0 : wr.cell? ⟨g, o + k * 2, none⟩ = some (.string l[k].key) := hc 0 _ rfl
      have c1 : wr.cell? ⟨g, o + k * 2 + 1, none⟩ = some (.string l[k].mat) := hc 1 _ rfl
      clear hc
      obtain ⟨g', o', cx, rfl, hb0', hb1', rfl, hc⟩ := (hm.pure hg).at_ (by decide) hlt
      have c0' : wr.cell? ⟨g', o' + k * 2, none⟩ = some (.string l[k].key) := hc 0 _ rfl
      have c1' : wr.cell? ⟨g', o' + k * 2 + 1, none⟩ = some (.string l[k].mat) := hc 1 _ rfl
      clear hc
      have hi0 : (0 : Int) ≤ (k : Int) ∧ (k : Int) < l.length := by omega
      go_wp2_with fail
      go_quiet (fail)
      go_wp2
      (go_roundw; (case rel => exact ⟨k + 1, by omega, by go_num, gr_drewN hg _⟩); (case measure => simp [intOf]; omega))
    · go_wp2
      go_ret
      exact ⟨rfl, hg⟩

set_option maxHeartbeats 1600000 in
theorem sameJb_any (A : Option Addr) (c : Nat) (l : List Jb) (B : Option Addr) (d : Nat) (w : World) (hl : Sl w 0 A l) (hm : Sl w 0 B l) :
    Calls Tryz.prog 28 #[.slice A l.length c, .slice B l.length d] w fun e w' => e = .returned (.bool true) ∧ w.grownBy w' none := by
  have hm1 := hl.1
  unfold maxLen at hm1
  go_enter Tryz.func28, Tryz.ntmps28
  go_wp2
  go_loopw [13] (fun i wr => ∃ k : Nat, k ≤ l.length ∧ i = .int .i64 k ∧ w.grownBy wr none) (fun i _ => l.length - (intOf i).toNat)
  case atStart => exact ⟨0, Nat.zero_le _, rfl, World.grownBy.refl _ _⟩
  case round =>
    obtain ⟨k, hk, rfl, hg⟩ := hrel
    by_cases hlt : k < l.length
    · obtain ⟨g, o, cx, rfl, hb0, hb1, rfl, hc⟩ := (hl.pure hg).at_ (by decide) hlt
      have c0 : wr.cell? ⟨g, o + k * 4, none⟩ = some (.string l[k].key) := hc 0 _ rfl
      have c1 : wr.cell? ⟨g, o + k * 4 + 1, none⟩ = some (.string l[k].mat) := hc 1 _ rfl
      have c2 : wr.cell? ⟨g, o + k * 4 + 2, none⟩ = some (.int .i64 l[k].min) := hc 2 _ rfl
      have c3 : wr.cell? ⟨g, o + k * 4 + 3, none⟩ = some (.int .i64 l[k].due) := hc 3 _ rfl
      clear hc
      obtain ⟨g', o', cx, rfl, hb0', hb1', rfl, hc⟩ := (hm.pure hg).at_ (by decide) hlt
      have c0' : wr.cell? ⟨g', o' + k * 4, none⟩ = some (.string l[k].key) := hc 0 _ rfl
      have c1' : wr.cell? ⟨g', o' + k * 4 + 1, none⟩ = some (.string l[k].mat) := hc 1 _ rfl
      have c2' : wr.cell? ⟨g', o' + k * 4 + 2, none⟩ = some (.int .i64 l[k].min) := hc 2 _ rfl
      have c3' : wr.cell? ⟨g', o' + k * 4 + 3, none⟩ = some (.int .i64 l[k].due) := hc 3 _ rfl
      clear hc
      have hi0 : (0 : Int) ≤ (k : Int) ∧ (k : Int) < l.length := by omega
      generalize l[k] = q at *
      go_wp2_with fail
      go_quiet (fail)
      go_wp2
      (go_roundw; (case rel => exact ⟨k + 1, by omega, by go_num, gr_drewN hg _⟩); (case measure => simp [intOf]; omega))
    · go_wp2
      go_ret
      exact ⟨rfl, hg⟩

set_option maxHeartbeats 2000000 in
set_option maxRecDepth 100000 in
/-- rows that are the same, compared row by row -/
theorem sameRows_any (A : Option Addr) (c : Nat) (l : List (List Int)) (B : Option Addr) (d : Nat) (w : World) (hl : Sl w 0 A l) (hm : Sl w 0 B l) :
    Calls Tryz.prog 19 #[.slice A l.length c, .slice B l.length d, .func (.func 20) #[] #[]] w fun e w' => e = .returned (.bool true) ∧ w.grownBy w' none := by
  have hm1 := hl.1
  unfold maxLen at hm1
  go_enter Tryz.func19, Tryz.ntmps19
  go_wp2_with fail
  go_loopw [17] (fun i wr => ∃ k : Nat, k ≤ l.length ∧ i = .int .i64 k ∧ w.grownBy wr none) (fun i _ => l.length - (intOf i).toNat)
  case atStart => exact ⟨0, Nat.zero_le _, rfl, World.grownBy.refl _ _⟩
  case round =>
    obtain ⟨k, hk, rfl, hg⟩ := hrel
    by_cases hlt : k < l.length
    · obtain ⟨g, o, Bk, dk, rfl, hb1, c0, hsl⟩ := sl_inner hl hlt
      obtain ⟨g', o', Bm, dm, rfl, hb1', c1, hsm⟩ := sl_inner hm hlt
      replace c0 := hg.k c0
      replace c1 := hg.k c1
      have hC := hide (equalInts_any Bk Bm dk dm l[k] l[k] wr (hsl.pure hg) (hsm.pure hg))
      rw [eqB_refl] at hC
      generalize l[k] = a at *
      have hi0 : (0 : Int) ≤ (k : Int) ∧ (k : Int) < l.length := by omega
      go_wp2_with fail
      go_at_call 20
      refine hC.out.mono ?_
      rintro e wq ⟨rfl, hgq⟩
      go_wp2_with fail
      (go_roundw; (case rel => exact ⟨k + 1, by omega, by go_num, hg.t hgq⟩); (case measure => simp [intOf]; omega))
    · go_wp2_with fail
      go_ret
      exact ⟨rfl, hg⟩

set_option maxHeartbeats 1000000 in
/-- the ends are new memory -/
theorem endsOwn_any (A : Option Addr) (c : Nat) (p : List Prn) (B : Option Addr) (d : Nat) (j : List Jb) (C : Option Addr) (e0 : Nat) (plan : List (List Int)) (ch : Int) (w : World) (hp : Sl w 0 A p) (hj : Sl w 0 B j) (hpl : Sl w 0 C plan) (h0 : plannedF p j plan ch = 0) :
    Calls Tryz.prog 12 #[.slice A p.length c, .slice B j.length d, .slice C plan.length e0, .int .i64 ch] w fun e w' => ∃ g, e = .returned (.tuple #[.slice (some ⟨g, 0, none⟩) j.length j.length, .int .i64 (endF p j plan ch), .int .i64 0]) ∧ Own w' w.heap.size 3 (some ⟨g, 0, none⟩) j.length (endsF p j plan ch) ∧ w.grownBy w' none := by
  have hPl := planned_any A c p B d j C e0 plan ch w hp hj hpl
  have hok := pok_of h0
  rw [h0] at hPl
  clear h0
  replace hok := hide hok
  go_enter Tryz.func12, Tryz.ntmps12
  go_wp2_with fail
  refine hPl.mono ?_
  rintro e w1 ⟨rfl, hg1⟩
  go_wp2_with fail
  refine (endsJ_any _ _ _ _ _ _ _ _ _ _ _ (hp.pure hg1) (hj.pure hg1) (hpl.pure hg1) hok.out).mono ?_
  rintro e w2 ⟨g, rfl, ho, hg2⟩
  go_wp2_with fail
  exact bodyPost_ret (v := .tuple #[.slice (some ⟨g, 0, none⟩) j.length j.length, .int .i64 (endF p j plan ch), .int .i64 0]) (by simp [results, Tryz.results12, go_sem]) rfl ⟨g, rfl, ho.lower hg1.size, gr_trans hg1 hg2⟩

/-- integers may have turned, in blocks of lo .. hi -/
structure SpI2 (lo hi : Nat) (w w' : World) : Prop where
  gr : ∃ p : Nat → Prop, GrS p w w' ∧ ∀ x, p x → lo ≤ x ∧ x < hi
  sp : ∀ lo' hi' A n, SpV IsI 1 w lo' hi' A n → SpV IsI 1 w' lo' hi' A n

theorem SpI2.refl (lo hi : Nat) (w : World) : SpI2 lo hi w w := ⟨⟨fun _ => False, GrS.refl _ _, fun x h => h.elim⟩, fun _ _ _ _ h => h⟩

theorem SpI2.trans {lo hi : Nat} {w w' w'' : World} (h : SpI2 lo hi w w') (k : SpI2 lo hi w' w'') : SpI2 lo hi w w'' := by
  obtain ⟨p, h1, h2⟩ := h.gr
  obtain ⟨q, k1, k2⟩ := k.gr
  exact ⟨⟨fun x => lo ≤ x ∧ x < hi, (h1.mono fun x _ hx => h2 x hx).trans (k1.mono fun x _ hx => k2 x hx), fun x hx => hx⟩, fun lo' hi' A n hs => k.sp _ _ _ _ (h.sp _ _ _ _ hs)⟩

theorem SpI2.sl {α : Type} [Enc α] {lo hi lo' : Nat} {w w' : World} {A : Option Addr} {l : List α} (h : SpI2 lo hi w w') (hs : Sl w lo' A l) (hl : hi ≤ lo') : Sl w' lo' A l := by
  obtain ⟨p, h1, h2⟩ := h.gr
  exact h1.sl hs fun x hx => by have := h2 x hx; omega

theorem SpI2.new {lo hi : Nat} {w w' wb : World} (h : SpI2 lo hi w w') (hg : wb.grownBy w none) (hl : wb.heap.size ≤ lo) : wb.grownBy w' none := by
  obtain ⟨p, h1, h2⟩ := h.gr
  exact h1.new hg fun x hx => by have := h2 x hx; omega

set_option maxHeartbeats 800000 in
theorem spoilV_any (A : Option Addr) (n c lo hi : Nat) (w : World) (hS : SpV IsI 1 w lo hi A n) (hn : n ≤ 1000000) :
    Calls Tryz.prog 21 #[.slice A n c] w fun e w' => e = .returned (.tuple #[]) ∧ SpI2 lo hi w w' := by
  go_enter Tryz.func21, Tryz.ntmps21
  go_wp2
  go_loopw [5] (fun i wr => ∃ k : Nat, k ≤ n ∧ i = .int .i64 k ∧ SpI2 lo hi w wr) (fun i _ => n - (intOf i).toNat)
  case atStart => exact ⟨0, Nat.zero_le _, rfl, SpI2.refl _ _ _⟩
  case round =>
    obtain ⟨k, hk, rfl, hI⟩ := hrel
    by_cases hlt : k < n
    · obtain ⟨g, o, v, rfl, hg1, hg2, ⟨x, rfl⟩, cj, fj⟩ := hI.sp _ _ _ _ hS k hlt
      rw [Nat.mul_one] at cj fj
      have hI2 : SpI2 lo hi wr (wr.setCell ⟨g, o + k, none⟩ (.int .i64 777)) :=
        ⟨⟨fun x => x = g, GrS.of (gr_set (World.grownBy.refl wr (some g)) (p := ⟨g, o + k, none⟩) (.inl rfl) _) (fun x e => by injection e with e; exact e.symm), fun x hx => by subst hx; exact ⟨hg1, hg2⟩⟩,
         fun lo' hi' A n h => h.set g (o + k) (.int .i64 777) ⟨777, rfl⟩ rfl⟩
      go_wp2_with fail
      (go_roundw; (case rel => exact ⟨k + 1, by omega, by go_num, hI.trans hI2⟩); (case measure => simp [intOf]; omega))
    · go_wp2
      go_end0
      exact ⟨rfl, hI⟩

theorem RowsN.spv {w : World} {lo li : Nat} {eo ei : TypeId} {A : Option Addr} {c : Nat} {raws : List RawS} {ls : List (List Int)} (h : RowsN w lo li eo ei A c raws ls) {i : Nat} (hi : i < raws.length) : SpV IsI 1 w li w.heap.size raws[i].A raws[i].n := fun j hj => by
  have hi2 : i < ls.length := by rw [← h.len]; exact hi
  obtain ⟨e, ho⟩ := h.ins i hi hi2
  have hj2 : j < ls[i].length := by rw [← e]; exact hj
  obtain ⟨g, hA, h1, h2⟩ := ho.shape (by omega)
  rw [hA] at ho
  obtain ⟨c1, hr, hc⟩ := ho.cell_at (by decide) hj2
  have hr' : c1 = [.int .i64 ls[i][j]] := hr
  subst hr'
  have h3 := hc 0 _ rfl
  rw [show Enc.sz Int = 1 from rfl, Nat.add_zero] at h3
  exact ⟨g, 0, _, hA, h1, h2, ⟨_, rfl⟩, by rw [Nat.zero_add]; exact h3, by rw [Nat.zero_add]; exact ho.frozen _⟩

end Go.Proofs.YtanioobepfllgaaGreatDoor

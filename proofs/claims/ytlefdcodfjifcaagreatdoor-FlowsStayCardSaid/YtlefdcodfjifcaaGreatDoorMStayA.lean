/- Contracts of functions that this seat's laws reach, each: what one call returns and what it leaves in memory; no condition beyond each theorem's own hypotheses. -/
import Derived.Test.YtlefdcodfjifcaaGreatDoorMSpoolC
import Derived.Test.YtlefdcodfjifcaaGreatDoorMSlices
import Derived.Test.YtlefdcodfjifcaaGreatDoorMFlowA
set_option linter.unusedVariables false
set_option linter.unusedSimpArgs false
namespace Go.Proofs.YtlefdcodfjifcaaGreatDoor
open Go Go.RowKit Go.Bl

set_option maxHeartbeats 400000 in
theorem cloneBead_any (A : Option Addr) (c : Nat) (l : List Bead) (w : World) (hl : Sl w 0 A l) (hlen : l.length ≤ 1000000) :
    Calls Tryz.prog 18 #[.slice A l.length c] w fun e w' => ∃ A' c', e = .returned (.slice A' l.length c') ∧ Own w' w.heap.size 50 A' c' l ∧ w.grownBy w' none := by
  obtain ⟨i0, hi, hz, h1, h2⟩ := info_parts info_bead
  have hq := fun W => Lib.run_eql_slice_nil (P := Tryz.prog) W 41 50 A l.length c 0 0 Tryz.underlying41
  rcases A with _ | ad
  · have hl0 : l = [] := by
      rcases Nat.eq_zero_or_pos l.length with h | h
      · exact List.eq_nil_of_length_eq_zero h
      · obtain ⟨g, o, cx, e, _⟩ := hl.at_ (by decide) h
        cases e
    subst hl0
    simp only [List.length_nil] at hq
    go_enter Tryz.func18, Tryz.ntmps18
    go_wp2_with fail
    go_ret
    exact ⟨none, 0, rfl, Own.nil _ _ _, World.grownBy.refl _ _⟩
  · go_enter Tryz.func18, Tryz.ntmps18
    go_wp2_with (at_builtin; refine wpList_push _ rfl (.tmp 5) (.tmp 6) _ rfl w.heap.size 50 i0 _ 24 Tryz.underlying41 hi hz h1 h2 rfl _ _ _ [] rfl rfl (by exact Own.empty _ _ _ (Nat.le_refl _)) 0 ad _ c l rfl rfl (by exact hl.pure (gr_alloc (World.grownBy.refl _ _) _)) ?c2 ?c3 ?c4 ?_)
    case c2 => simp; omega
    case c3 => simp [maxLen]; omega
    case c4 => simp
    intro A2 c2 w2 hown hup
    go_wp2
    go_ret
    exact ⟨A2, c2, rfl, hown, hup.gr (Nat.le_refl _) (gr_alloc (World.grownBy.refl _ _) _)⟩

set_option maxHeartbeats 400000 in
theorem cloneSpl_any (A : Option Addr) (c : Nat) (l : List Spl) (w : World) (hl : Sl w 0 A l) (hlen : l.length ≤ 1000000) :
    Calls Tryz.prog 20 #[.slice A l.length c] w fun e w' => ∃ A' c', e = .returned (.slice A' l.length c') ∧ Own w' w.heap.size 54 A' c' l ∧ w.grownBy w' none := by
  obtain ⟨i0, hi, hz, h1, h2⟩ := info_parts info_spl
  have hq := fun W => Lib.run_eql_slice_nil (P := Tryz.prog) W 44 54 A l.length c 0 0 Tryz.underlying44
  rcases A with _ | ad
  · have hl0 : l = [] := by
      rcases Nat.eq_zero_or_pos l.length with h | h
      · exact List.eq_nil_of_length_eq_zero h
      · obtain ⟨g, o, cx, e, _⟩ := hl.at_ (by decide) h
        cases e
    subst hl0
    simp only [List.length_nil] at hq
    go_enter Tryz.func20, Tryz.ntmps20
    go_wp2_with fail
    go_ret
    exact ⟨none, 0, rfl, Own.nil _ _ _, World.grownBy.refl _ _⟩
  · go_enter Tryz.func20, Tryz.ntmps20
    go_wp2_with (at_builtin; refine wpList_push _ rfl (.tmp 5) (.tmp 6) _ rfl w.heap.size 54 i0 _ 40 Tryz.underlying44 hi hz h1 h2 rfl _ _ _ [] rfl rfl (by exact Own.empty _ _ _ (Nat.le_refl _)) 0 ad _ c l rfl rfl (by exact hl.pure (gr_alloc (World.grownBy.refl _ _) _)) ?c2 ?c3 ?c4 ?_)
    case c2 => simp; omega
    case c3 => simp [maxLen]; omega
    case c4 => simp
    intro A2 c2 w2 hown hup
    go_wp2
    go_ret
    exact ⟨A2, c2, rfl, hown, hup.gr (Nat.le_refl _) (gr_alloc (World.grownBy.refl _ _) _)⟩

set_option maxHeartbeats 400000 in
theorem cloneDrw_any (A : Option Addr) (c : Nat) (l : List Drw) (w : World) (hl : Sl w 0 A l) (hlen : l.length ≤ 1000000) :
    Calls Tryz.prog 21 #[.slice A l.length c] w fun e w' => ∃ A' c', e = .returned (.slice A' l.length c') ∧ Own w' w.heap.size 57 A' c' l ∧ w.grownBy w' none := by
  obtain ⟨i0, hi, hz, h1, h2⟩ := info_parts info_drw
  have hq := fun W => Lib.run_eql_slice_nil (P := Tryz.prog) W 46 57 A l.length c 0 0 Tryz.underlying46
  rcases A with _ | ad
  · have hl0 : l = [] := by
      rcases Nat.eq_zero_or_pos l.length with h | h
      · exact List.eq_nil_of_length_eq_zero h
      · obtain ⟨g, o, cx, e, _⟩ := hl.at_ (by decide) h
        cases e
    subst hl0
    simp only [List.length_nil] at hq
    go_enter Tryz.func21, Tryz.ntmps21
    go_wp2_with fail
    go_ret
    exact ⟨none, 0, rfl, Own.nil _ _ _, World.grownBy.refl _ _⟩
  · go_enter Tryz.func21, Tryz.ntmps21
    go_wp2_with (at_builtin; refine wpList_push _ rfl (.tmp 5) (.tmp 6) _ rfl w.heap.size 57 i0 _ 32 Tryz.underlying46 hi hz h1 h2 rfl _ _ _ [] rfl rfl (by exact Own.empty _ _ _ (Nat.le_refl _)) 0 ad _ c l rfl rfl (by exact hl.pure (gr_alloc (World.grownBy.refl _ _) _)) ?c2 ?c3 ?c4 ?_)
    case c2 => simp; omega
    case c3 => simp [maxLen]; omega
    case c4 => simp
    intro A2 c2 w2 hown hup
    go_wp2
    go_ret
    exact ⟨A2, c2, rfl, hown, hup.gr (Nat.le_refl _) (gr_alloc (World.grownBy.refl _ _) _)⟩

set_option maxHeartbeats 1600000 in
theorem sameBead_any (A : Option Addr) (c : Nat) (l : List Bead) (B : Option Addr) (d : Nat) (w : World) (hl : Sl w 0 A l) (hm : Sl w 0 B l) :
    Calls Tryz.prog 27 #[.slice A l.length c, .slice B l.length d] w fun e w' => e = .returned (.bool true) ∧ w.grownBy w' none := by
  have hm1 := hl.1
  unfold maxLen at hm1
  go_enter Tryz.func27, Tryz.ntmps27
  go_wp2
  go_loopw [13] (fun i wr => ∃ k : Nat, k ≤ l.length ∧ i = .int .i64 k ∧ w.grownBy wr none) (fun i _ => l.length - (intOf i).toNat)
  case atStart => exact ⟨0, Nat.zero_le _, rfl, World.grownBy.refl _ _⟩
  case round =>
    obtain ⟨k, hk, rfl, hg⟩ := hrel
    by_cases hlt : k < l.length
    · obtain ⟨g, o, cx, rfl, hb0, hb1, rfl, hc⟩ := (hl.pure hg).at_ (by decide) hlt
      have c0 : wr.cell? ⟨g, o + k * 3, none⟩ = some (.int .i64 l[k].long) := hc 0 _ rfl
      have c1 : wr.cell? ⟨g, o + k * 3 + 1, none⟩ = some (.int .i64 l[k].wide) := hc 1 _ rfl
      have c2 : wr.cell? ⟨g, o + k * 3 + 2, none⟩ = some (.int .i64 l[k].high) := hc 2 _ rfl
      clear hc
      obtain ⟨g', o', cx, rfl, hb0', hb1', rfl, hc⟩ := (hm.pure hg).at_ (by decide) hlt
      have c0' : wr.cell? ⟨g', o' + k * 3, none⟩ = some (.int .i64 l[k].long) := hc 0 _ rfl
      have c1' : wr.cell? ⟨g', o' + k * 3 + 1, none⟩ = some (.int .i64 l[k].wide) := hc 1 _ rfl
      have c2' : wr.cell? ⟨g', o' + k * 3 + 2, none⟩ = some (.int .i64 l[k].high) := hc 2 _ rfl
      clear hc
      have hi0 : (0 : Int) ≤ (k : Int) ∧ (k : Int) < l.length := by omega
      go_wp2_with fail
      go_quiet (fail)
      go_wp2
      (go_roundw; (case rel => exact ⟨k + 1, by omega, by go_num, gr_drewN hg _⟩); (case measure => simp [intOf]; omega))
    · go_wp2
      go_ret
      exact ⟨rfl, hg⟩

set_option maxHeartbeats 1600000 in
theorem sameSpl_any (A : Option Addr) (c : Nat) (l : List Spl) (B : Option Addr) (d : Nat) (w : World) (hl : Sl w 0 A l) (hm : Sl w 0 B l) :
    Calls Tryz.prog 28 #[.slice A l.length c, .slice B l.length d] w fun e w' => e = .returned (.bool true) ∧ w.grownBy w' none := by
  have hm1 := hl.1
  unfold maxLen at hm1
  go_enter Tryz.func28, Tryz.ntmps28
  go_wp2
  go_loopw [13] (fun i wr => ∃ k : Nat, k ≤ l.length ∧ i = .int .i64 k ∧ w.grownBy wr none) (fun i _ => l.length - (intOf i).toNat)
  case atStart => exact ⟨0, Nat.zero_le _, rfl, World.grownBy.refl _ _⟩
  case round =>
    obtain ⟨k, hk, rfl, hg⟩ := hrel
    by_cases hlt : k < l.length
    · obtain ⟨g, o, cx, rfl, hb0, hb1, rfl, hc⟩ := (hl.pure hg).at_ (by decide) hlt
      have c0 : wr.cell? ⟨g, o + k * 3, none⟩ = some (.string l[k].key) := hc 0 _ rfl
      have c1 : wr.cell? ⟨g, o + k * 3 + 1, none⟩ = some (.string l[k].mat) := hc 1 _ rfl
      have c2 : wr.cell? ⟨g, o + k * 3 + 2, none⟩ = some (.int .i64 l[k].left) := hc 2 _ rfl
      clear hc
      obtain ⟨g', o', cx, rfl, hb0', hb1', rfl, hc⟩ := (hm.pure hg).at_ (by decide) hlt
      have c0' : wr.cell? ⟨g', o' + k * 3, none⟩ = some (.string l[k].key) := hc 0 _ rfl
      have c1' : wr.cell? ⟨g', o' + k * 3 + 1, none⟩ = some (.string l[k].mat) := hc 1 _ rfl
      have c2' : wr.cell? ⟨g', o' + k * 3 + 2, none⟩ = some (.int .i64 l[k].left) := hc 2 _ rfl
      clear hc
      have hi0 : (0 : Int) ≤ (k : Int) ∧ (k : Int) < l.length := by omega
      go_wp2_with fail
      go_quiet (fail)
      go_wp2
      (go_roundw; (case rel => exact ⟨k + 1, by omega, by go_num, gr_drewN hg _⟩); (case measure => simp [intOf]; omega))
    · go_wp2
      go_ret
      exact ⟨rfl, hg⟩

set_option maxHeartbeats 1600000 in
theorem sameDrw_any (A : Option Addr) (c : Nat) (l : List Drw) (B : Option Addr) (d : Nat) (w : World) (hl : Sl w 0 A l) (hm : Sl w 0 B l) :
    Calls Tryz.prog 29 #[.slice A l.length c, .slice B l.length d] w fun e w' => e = .returned (.bool true) ∧ w.grownBy w' none := by
  have hm1 := hl.1
  unfold maxLen at hm1
  go_enter Tryz.func29, Tryz.ntmps29
  go_wp2
  go_loopw [13] (fun i wr => ∃ k : Nat, k ≤ l.length ∧ i = .int .i64 k ∧ w.grownBy wr none) (fun i _ => l.length - (intOf i).toNat)
  case atStart => exact ⟨0, Nat.zero_le _, rfl, World.grownBy.refl _ _⟩
  case round =>
    obtain ⟨k, hk, rfl, hg⟩ := hrel
    by_cases hlt : k < l.length
    · obtain ⟨g, o, cx, rfl, hb0, hb1, rfl, hc⟩ := (hl.pure hg).at_ (by decide) hlt
      have c0 : wr.cell? ⟨g, o + k * 3, none⟩ = some (.int .i64 l[k].at_) := hc 0 _ rfl
      have c1 : wr.cell? ⟨g, o + k * 3 + 1, none⟩ = some (.string l[k].spool) := hc 1 _ rfl
      have c2 : wr.cell? ⟨g, o + k * 3 + 2, none⟩ = some (.int .i64 l[k].long) := hc 2 _ rfl
      clear hc
      obtain ⟨g', o', cx, rfl, hb0', hb1', rfl, hc⟩ := (hm.pure hg).at_ (by decide) hlt
      have c0' : wr.cell? ⟨g', o' + k * 3, none⟩ = some (.int .i64 l[k].at_) := hc 0 _ rfl
      have c1' : wr.cell? ⟨g', o' + k * 3 + 1, none⟩ = some (.string l[k].spool) := hc 1 _ rfl
      have c2' : wr.cell? ⟨g', o' + k * 3 + 2, none⟩ = some (.int .i64 l[k].long) := hc 2 _ rfl
      clear hc
      have hi0 : (0 : Int) ≤ (k : Int) ∧ (k : Int) < l.length := by omega
      go_wp2_with fail
      go_quiet (fail)
      go_wp2
      (go_roundw; (case rel => exact ⟨k + 1, by omega, by go_num, gr_drewN hg _⟩); (case measure => simp [intOf]; omega))
    · go_wp2
      go_ret
      exact ⟨rfl, hg⟩

set_option maxHeartbeats 800000 in
/-- what is spoiled is one's own -/
theorem spoilInts_any (A : Option Addr) (n c lo : Nat) (l : List Int) (w : World) (hO : Own w lo 3 A c l) (hn : l.length = n) :
    Calls Tryz.prog 24 #[.slice A n c] w fun e w' => e = .returned (.tuple #[]) ∧ w.grownBy w' (blk A) := by
  have hm := hO.1
  unfold maxLen at hm
  have hn2 := hide hn
  have hnb : n ≤ 9223372036854775807 := by omega
  go_enter Tryz.func24, Tryz.ntmps24
  go_wp2
  go_loopw [5] (fun i wr => ∃ (k : Nat) (m : List Int), k ≤ n ∧ i = .int .i64 k ∧ Hid (m.length = n) ∧ Own wr lo 3 A c m ∧ w.grownBy wr (blk A)) (fun i _ => n - (intOf i).toNat)
  case atStart => exact ⟨0, l, Nat.zero_le _, rfl, hn2.out, hO, World.grownBy.refl _ _⟩
  case round =>
    clear hO hn
    obtain ⟨k, m, hk, rfl, hmn, hown, hg⟩ := hrel
    by_cases hlt : k < n
    · have hlm : k < m.length := by rw [hmn.out]; exact hlt
      obtain ⟨g1, rfl, hgl, hgr⟩ := hown.shape (by omega)
      have cj := hown.cell_int hlm
      have fj := hown.frozen k
      have hown2 := hown.set_int k 777
      have hg2 := gr_set hg (p := ⟨g1, k, none⟩) (.inl rfl) (.int .i64 777)
      have hm2 : Hid ((m.set k 777).length = n) := by rw [Hid, List.length_set]; exact hmn.out
      go_wp2_with fail
      (go_roundw; (case rel => exact ⟨k + 1, _, by omega, by go_num, hm2, hown2, hg2⟩); (case measure => simp [intOf]; omega))
    · go_wp2
      go_end0
      exact ⟨rfl, hg⟩

end Go.Proofs.YtlefdcodfjifcaaGreatDoor

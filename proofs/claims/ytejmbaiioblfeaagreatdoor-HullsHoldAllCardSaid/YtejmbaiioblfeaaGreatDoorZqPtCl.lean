/- Contracts of functions that this seat's laws reach, each: what one call returns and what it leaves in memory; no condition beyond each theorem's own hypotheses. -/
import Derived.Test.YtejmbaiioblfeaaGreatDoorZqPathF
import Derived.Test.YtejmbaiioblfeaaGreatDoorZqNestCat
import Derived.Test.YtejmbaiioblfeaaGreatDoorZqPathA
set_option linter.unusedVariables false
set_option linter.unusedSimpArgs false
namespace Go.Bl

theorem Own.set_pt {w : World} {lo : Nat} {e : TypeId} {g c : Nat} {l : List Pt} (h : Own w lo e (some ⟨g, 0, none⟩) c l) {i : Nat} (hi : i < l.length) (p : Pt) :
    Own ((w.setCell ⟨g, i * 2, none⟩ (.int .i64 p.x)).setCell ⟨g, i * 2 + 1, none⟩ (.int .i64 p.y)) lo e (some ⟨g, 0, none⟩) c (l.set i p) := by
  have h1 := h.put hi (j := 0) (x := ⟨p.x, l[i].y⟩) (u := .int .i64 p.x) (by decide) (by rintro c1 rfl; rfl)
  have h2 := h1.put (i := i) (j := 1) (x := p) (u := .int .i64 p.y) (by simpa using hi) (by decide) (by rintro c1 hc; simp at hc; rw [hc]; rfl)
  simp only [List.set_set] at h2
  exact h2

theorem Own.cell_pt {w : World} {lo : Nat} {e : TypeId} {g c : Nat} {l : List Pt} (h : Own w lo e (some ⟨g, 0, none⟩) c l) {i : Nat} (hi : i < l.length) : w.cell? ⟨g, i * 2, none⟩ = some (.int .i64 l[i].x) ∧ w.cell? ⟨g, i * 2 + 1, none⟩ = some (.int .i64 l[i].y) := by
  obtain ⟨c1, rfl, hc⟩ := h.cell_at (by decide) hi
  exact ⟨hc 0 _ rfl, hc 1 _ rfl⟩

end Go.Bl
namespace Go.Proofs.YtejmbaiioblfeaaGreatDoor
open Go.RowKit Go.Bl

set_option maxHeartbeats 2000000 in
theorem reversePt_any (lo g c : Nat) (l : List Pt) (w : World) (ho : Own w lo 29 (some ⟨g, 0, none⟩) c l) (hn : 0 < l.length) (hs : l.length ≤ 1000000) :
    Calls Tryz.prog 58 #[.slice (some ⟨g, 0, none⟩) l.length c] w fun e w' => (∃ v, e = .returned v) ∧ Own w' lo 29 (some ⟨g, 0, none⟩) c l.reverse ∧ w.grownBy w' (some g) := by
  go_enter Tryz.func58, Tryz.ntmps58
  go_wp2_with fail
  go_loopw [2, 3] (fun i j wr => ∃ k : Nat, 2 * k ≤ l.length ∧ i = .int .i64 k ∧ j = .int .i64 ((l.length : Int) - 1 - k) ∧ Own wr lo 29 (some ⟨g, 0, none⟩) c (revK l k) ∧ w.grownBy wr (some g)) (fun i j _ => (intOf j - intOf i + 2).toNat)
  case atStart => exact ⟨0, by omega, rfl, by simp, by rw [revK_zero]; exact ho, World.grownBy.refl _ _⟩
  case round =>
    obtain ⟨k, hk, rfl, rfl, hown, hg⟩ := hrel
    by_cases hlt : 2 * k + 1 < l.length
    · obtain ⟨m, hm⟩ : ∃ m : Nat, m + k + 1 = l.length := ⟨l.length - 1 - k, by omega⟩
      have hkm : k < m := by omega
      have hml : m < l.length := by omega
      have hkl : k < l.length := by omega
      have hj : (l.length : Int) - 1 - k = (m : Int) := by omega
      rw [hj]
      obtain ⟨a0, a1⟩ := hown.cell_pt (i := k) (by rw [revK_len]; omega)
      obtain ⟨b0, b1⟩ := hown.cell_pt (i := m) (by rw [revK_len]; omega)
      rw [revK_lo' hm hkm] at a0 a1
      rw [revK_hi' hm hkm] at b0 b1
      have h1 := (hown.set_pt (i := k) (by rw [revK_len]; omega) l[m]).set_pt (i := m) (by simp [revK_len]; omega) l[k]
      rw [← revK_succ' hm hkm] at h1
      have f0 := hown.frozen (k * 2)
      have f1 := hown.frozen (k * 2 + 1)
      have f2 := hown.frozen (m * 2)
      have f3 := hown.frozen (m * 2 + 1)
      replace hm := hide hm
      replace h1 := hide h1
      clear hj hlt
      go_wp2_with fail
      go_region
      all_goals
        go_wp2
        go_roundw
        case rel => exact ⟨k + 1, by have := hm.out; omega, by go_num, by have := hm.out; congr 1; simp; omega, h1.out.pure (gr_drew (World.grownBy.refl _ _)), gr_drew (gr_set (gr_set (gr_set (gr_set hg (.inl rfl) _) (.inl rfl) _) (.inl rfl) _) (.inl rfl) _)⟩
        case measure => simp [intOf]; omega
    · have he : Hid (revK l k = l.reverse) := revK_all (by omega)
      go_wp2_with fail
      go_end0
      exact ⟨⟨_, rfl⟩, by rw [← he.out]; exact hown, hg⟩

end Go.Proofs.YtejmbaiioblfeaaGreatDoor

namespace Go.Proofs.YtejmbaiioblfeaaGreatDoor
open Go.RowKit Go.Bl

end Go.Proofs.YtejmbaiioblfeaaGreatDoor

namespace Go.Proofs.YtejmbaiioblfeaaGreatDoor
open Go Go.RowKit Go.Bl

def SPtB (b : Nat) (N : Int) (w : World) (e : Ending) (w' : World) : Prop := ∃ p : Pt, e = .returned (.agg #[.int .i64 p.x, .int .i64 p.y]) ∧ (-1000000000000000 ≤ p.x ∧ p.x ≤ 1000000000000000) ∧ SOut b N w w'

set_option maxHeartbeats 800000 in
theorem aPointB_any (b : Nat) (N : Int) (w : World) (hs : Strm w b N) (hN : N ≤ 1000000000) :
    Calls Tryz.prog 6 #[.pointer (some ⟨b, 0, none⟩)] w (SPtB b (N + 5) w) := by
  have hbw := hs.lt
  have hg0 := gr_alloc (r := none) (World.grownBy.refl w none) (.cells #[.int .i64 0, .int .i64 0] 29)
  have K0 := Cell.new w [.int .i64 0, .int .i64 0] 29 0 _ rfl _ rfl
  have K1 := Cell.new w [.int .i64 0, .int .i64 0] 29 1 _ rfl _ rfl
  go_enter Tryz.func6, Tryz.ntmps6
  go_wp2_with fail
  refine (range_any b N _ _ _ (hs.pure hg0) (by omega) (by omega) (by omega) (by omega)).mono ?_
  rintro e w1 ⟨r1, rfl, hr1, ho1⟩
  go_wp2_with fail
  refine (range_any b (N + 1) _ _ _ ho1.2 (by omega) (by omega) (by omega) (by omega)).mono ?_
  rintro e w2 ⟨r2, rfl, _, ho2⟩
  have hoA := ho1.trans ho2
  have hz2 := hoA.1.size
  simp at hz2
  have J0 := Cell.new w2 [.int .i64 r1, .int .i64 r2] 29 0 _ rfl _ rfl
  have J1 := Cell.new w2 [.int .i64 r1, .int .i64 r2] 29 1 _ rfl _ rfl
  go_wp2_with fail
  refine (flip_any b (N + 1 + 1) _ _ (hoA.2.pure (gr_alloc (World.grownBy.refl _ _) _)) (by omega) (by omega)).mono ?_
  rintro e w3 ⟨f, rfl, ho3⟩
  have hoB := (hoA.pure (gr_alloc (World.grownBy.refl _ _) (.cells #[.int .i64 r1, .int .i64 r2] 29))).trans ho3
  replace hr1 : -3 ≤ r1 ∧ r1 ≤ 14 := hr1
  replace J0 := J0.gr ho3.1 (by simp; omega)
  replace J1 := J1.gr ho3.1 (by simp; omega)
  replace K0 := K0.gr hoB.1 (by simp; omega)
  replace K1 := K1.gr hoB.1 (by simp; omega)
  have hG : SOut b (N + 1 + 1 + 1) w w3 := ⟨gr_trans (gr_any hg0) hoB.1, hoB.2⟩
  clear hg0 ho1 ho2 ho3 hoA hoB hs
  cases f
  · obtain ⟨j0, _⟩ := J0
    obtain ⟨j1, _⟩ := J1
    obtain ⟨k0, f0⟩ := K0
    obtain ⟨k1, f1⟩ := K1
    go_wp2_with fail
    refine bodyPost_ret (v := .agg #[.int .i64 r1, .int .i64 r2]) (by simp [results, Tryz.results6, go_sem, k0, k1, f0, f1]) rfl ⟨⟨r1, r2⟩, rfl, (by simp only; omega), ?_⟩
    exact ((hG.mono (by omega)).set hbw (Nat.le_refl _) _).set hbw (Nat.le_refl _) _
  · go_wp2_with fail
    refine (odd_any b (N + 1 + 1 + 1) _ _ _ hG.2 (by omega) (by omega) (by omega) (by omega)).mono ?_
    rintro e w4 ⟨r3, rfl, hr3, ho4⟩
    have hG4 := hG.trans ho4
    have hz3 := hG4.size
    obtain ⟨j0, j0f⟩ := J0.gr ho4.1 (by simp; omega)
    obtain ⟨j1, _⟩ := J1.gr ho4.1 (by simp; omega)
    obtain ⟨k0, f0⟩ := K0.gr ho4.1 (by simp; omega)
    obtain ⟨k1, f1⟩ := K1.gr ho4.1 (by simp; omega)
    have hne : w2.heap.size ≠ w.heap.size := by omega
    go_wp2_with fail
    refine bodyPost_ret (v := .agg #[.int .i64 r3, .int .i64 r2]) (by simp [results, Tryz.results6, go_sem, k0, k1, f0, f1, hne]) rfl ⟨⟨r3, r2⟩, rfl, (by simp only; omega), ?_⟩
    exact (((hG4.mono (by omega)).set hbw (show w.heap.size ≤ w2.heap.size by omega) _).set hbw (Nat.le_refl _) _).set hbw (Nat.le_refl _) _

set_option maxHeartbeats 2000000 in
set_option maxRecDepth 100000 in
theorem pointCloud_any (b : Nat) (N : Int) (w : World) (hs : Strm w b N) (hN : N ≤ 900000000) :
    Calls Tryz.prog 19 #[.pointer (some ⟨b, 0, none⟩)] w fun e w' => ∃ (A : Option Addr) (c : Nat) (l : List Pt), e = .returned (.slice A l.length c) ∧ Sl w' w.heap.size A l ∧ l.length ≤ 9 ∧ SOut b (N + 60) w w' := by
  have hbw := hs.lt
  obtain ⟨j0, hj, hjz, j1, j2⟩ := info_parts info_pt
  have hR := hide (range_any b N 0 9 w hs (by omega) (by omega) (by omega) (by omega))
  go_enter Tryz.func19, Tryz.ntmps19
  go_wp2_with fail
  refine hR.out.mono ?_
  rintro e w1 ⟨r, rfl, hr, ho1⟩
  obtain ⟨n, rfl⟩ : ∃ n : Nat, r = (n : Int) := ⟨r.toNat, by omega⟩
  have hn9 : n ≤ 9 := by omega
  clear hr hR
  go_wp2_with fail
  go_loopw [3, 7] (fun s i wr => ∃ (k : Nat) (out : List Pt) (A2 : Option Addr) (c2 : Nat), k ≤ n ∧ i = .int .i64 k ∧ s = .slice A2 out.length c2 ∧ Hid (out.length = k) ∧ Hid (∀ p ∈ out, -1000000000000000 ≤ p.x ∧ p.x ≤ 1000000000000000) ∧ Own wr w.heap.size 29 A2 c2 out ∧ SOut b (N + 1 + 5 * k) w wr) (fun _ i _ => n - (intOf i).toNat)
  case atStart => exact ⟨0, [], none, 0, Nat.zero_le _, rfl, rfl, rfl, by simp [Hid], Own.nil _ _ _, ho1.mono (by omega)⟩
  case round =>
    clear ho1
    obtain ⟨k, out, A2, c2, hk, rfl, rfl, hol, hob, hor, hor2⟩ := hrel
    by_cases hlt : k < n
    · have hP := hide (aPointB_any b _ wr hor2.2 (by omega))
      go_wp2_with fail
      refine hP.out.mono ?_
      rintro e w4 ⟨p, rfl, hpb, ho4⟩
      have hO4 := hor.s ho4 hbw
      have hS4 := hor2.trans ho4
      have hol9 : out.length ≤ 9 := by rw [hol.out]; omega
      have hszw := hS4.size
      clear hP hor hor2 ho4
      go_wp2_with (at_builtin; refine wpList_push (α := Pt) _ rfl (.tmp 9) (.tmp 12) _ rfl w.heap.size 29 j0 _ 16 Tryz.underlying35 hj hjz j1 j2 rfl _ _ _ out rfl rfl (by exact hO4.pure (gr_alloc (World.grownBy.refl _ _) _)) 0 ⟨_, 0, none⟩ 1 1 [p] rfl rfl (by exact sl_oneAt _ 0 [.int .i64 p.x, .int .i64 p.y] _ _ _ (by first | rfl | simp) (Nat.zero_le _) rfl) ?d2 ?d3 ?d4 ?_)
      case d2 => first | omega | (simp; omega)
      case d3 => first | (simp [maxLen]; omega) | (unfold maxLen; omega)
      case d4 => first | omega | (simp; omega)
      intro A6 c6 w6 hO6 hU6
      have hgy := (hS4.al (.cells #[.int .i64 p.x, .int .i64 p.y] 29)).upd (Nat.le_refl _) hbw hU6
      have hob2 : Hid (∀ q ∈ out ++ [p], -1000000000000000 ≤ q.x ∧ q.x ≤ 1000000000000000) := fun q hq => by
        rcases List.mem_append.1 hq with h | h
        · exact hob.out q h
        · rw [List.mem_singleton.1 h]; exact hpb
      have hol2 : Hid ((out ++ [p]).length = k + 1) := by rw [Hid, List.length_append, hol.out]; rfl
      go_wp2_with fail
      (go_roundw; (case rel => exact ⟨k + 1, out ++ [p], A6, c6, by omega, by go_num, by rw [List.length_append]; rfl, hol2, hob2, hO6, hgy.mono (by push_cast; omega)⟩); (case measure => simp [intOf]; omega))
    · have hF := hide (flip_any b _ 8 wr hor2.2 (by omega) (by omega))
      have hol9 : out.length ≤ 9 := by rw [hol.out]; omega
      go_wp2_with fail
      refine hF.out.mono ?_
      rintro e w4 ⟨f, rfl, ho4⟩
      have hO4 := hor.s ho4 hbw
      have hS4 := hor2.trans ho4
      clear hF hor hor2 ho4
      cases f
      · go_wp2_with fail
        go_ret
        exact ⟨A2, c2, out, rfl, hO4.sl, hol9, hS4.mono (by omega)⟩
      · go_wp2_with fail
        go_loopw [19] (fun i wr => ∃ (j : Nat) (l : List Pt), j ≤ out.length ∧ i = .int .i64 j ∧ Hid (l.length = out.length) ∧ Hid (∀ p ∈ l, -1000000000000000 ≤ p.x ∧ p.x ≤ 1000000000000000) ∧ Own wr w.heap.size 29 A2 c2 l ∧ SOut b (N + 59) w wr) (fun i _ => out.length - (intOf i).toNat)
        case atStart => exact ⟨0, out, Nat.zero_le _, rfl, rfl, hob, hO4, hS4.mono (by omega)⟩
        case round =>
          clear hO4 hS4
          obtain ⟨j, l, hj2, rfl, hll, hlb, hol3, hS⟩ := hrel
          by_cases hlj : j < out.length
          · have hjl : j < l.length := by rw [hll.out]; exact hlj
            obtain ⟨g, rfl, hgl, -⟩ := hol3.shape (by omega)
            obtain ⟨a0, a1⟩ := hol3.cell_pt hjl
            have f1 := hol3.frozen (j * 2 + 1)
            have hbx := hlb.out _ (List.getElem_mem hjl)
            have hst : Own (wr.setCell ⟨g, j * 2 + 1, none⟩ (.int .i64 (2 * l[j].x))) w.heap.size 29 (some ⟨g, 0, none⟩) c2 (l.set j ⟨l[j].x, 2 * l[j].x⟩) := hol3.put hjl (j := 1) (x := ⟨l[j].x, 2 * l[j].x⟩) (u := .int .i64 (2 * l[j].x)) (by decide) (by rintro c1 rfl; rfl)
            have hlb2 : Hid (∀ p ∈ l.set j ⟨l[j].x, 2 * l[j].x⟩, -1000000000000000 ≤ p.x ∧ p.x ≤ 1000000000000000) := fun p hp => by
              rcases List.mem_or_eq_of_mem_set hp with h | h
              · exact hlb.out p h
              · rw [h]; exact hbx
            have hll2 : Hid ((l.set j ⟨l[j].x, 2 * l[j].x⟩).length = out.length) := by rw [Hid, List.length_set]; exact hll.out
            have hSz := hS.set (p := ⟨g, j * 2 + 1, none⟩) hbw hgl (.int .i64 (2 * l[j].x))
            replace hlb2 := hide hlb2
            generalize hX : l[j].x = X at *
            clear hX
            generalize l.set j ⟨X, 2 * X⟩ = l2 at *
            go_wp2_with fail
            (go_roundw; (case rel => exact ⟨j + 1, l2, by omega, by go_num, hll2, hlb2.out, hst, hSz⟩); (case measure => simp [intOf]; omega))
          · have hl9 : l.length ≤ 9 := by rw [hll.out]; exact hol9
            go_wp2_with fail
            go_ret
            exact ⟨A2, c2, l, by rw [hll.out]; rfl, hol3.sl, hl9, hS.mono (by omega)⟩

end Go.Proofs.YtejmbaiioblfeaaGreatDoor

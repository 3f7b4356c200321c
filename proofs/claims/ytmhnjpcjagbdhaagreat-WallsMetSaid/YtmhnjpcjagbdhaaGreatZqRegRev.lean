/- Contracts of functions that this seat's laws reach, each: what one call returns and what it leaves in memory; no condition beyond each theorem's own hypotheses. -/
import Derived.Test.YtmhnjpcjagbdhaaGreatZqPathF
import Derived.Test.YtmhnjpcjagbdhaaGreatZqNestCat
set_option linter.unusedVariables false
set_option linter.unusedSimpArgs false
namespace Go.Bl

theorem Own.set_pt {w : World} {lo : Nat} {e : TypeId} {g c : Nat} {l : List Pt} (h : Own w lo e (some ⟨g, 0, none⟩) c l) {i : Nat} (hi : i < l.length) (p : Pt) :
    Own ((w.setCell ⟨g, i * 2, none⟩ (.int .i64 p.x)).setCell ⟨g, i * 2 + 1, none⟩ (.int .i64 p.y)) lo e (some ⟨g, 0, none⟩) c (l.set i p) := by
  have h1 := h.put hi (j := 0) (x := ⟨p.x, l[i].y⟩) (u := .int .i64 p.x) (by decide) (by rintro c1 rfl; rfl)
  have h2 := h1.put (i := i) (j := 1) (x := p) (u := .int .i64 p.y) (by simpa using hi) (by decide) (by rintro c1 hc; simp at hc; rw [hc]; rfl)
  simp only [List.set_set] at h2
  exact h2

theorem Own.cell_pt {w : World} {lo : Nat} {e : TypeId} {g c : Nat} {l : List Pt} (h : Own w lo e (some ⟨g, 0, none⟩) c l) {i : Nat} (hi : i < l.length) : w.cell? ⟨g, i * 2, none⟩ = some (.int .i64 l[i].x) ∧ w.cell? ⟨g, i * 2 + 1, none⟩ = some (.int .i64 l[i].y) := by
  obtain ⟨c1, rfl, hc⟩ := h.cell_at (by decide) hi
  exact ⟨hc 0 _ rfl, hc 1 _ rfl⟩

end Go.Bl
namespace Go.Proofs.YtmhnjpcjagbdhaaGreat
open Go.RowKit Go.Bl

set_option maxHeartbeats 800000 in
set_option maxRecDepth 100000 in
theorem growPt_any (n : Nat) (w : World) (h0 : 0 < n) (hn : n ≤ 1000000) :
    Calls Tryz.prog 93 #[.slice none 0 0, .int .i64 n] w fun e w' => ∃ G, e = .returned (.slice (some ⟨w.heap.size, 0, none⟩) 0 G) ∧ Own w' w.heap.size 29 (some ⟨w.heap.size, 0, none⟩) G ([] : List Pt) ∧ w.grownBy w' none := by
  obtain ⟨i0, hi, hz, h1, h2⟩ := info_parts info_pt
  obtain ⟨G, w2, hrun, hown, hg2, hG, hG2⟩ := run_growNil (P := Tryz.prog) (α := Pt) w 56 3 29 i0 _ .i64 Tryz.underlying56 Tryz.underlying3 hi hz h1 rfl n h0 (by rw [h2]; omega) (by omega)
  go_enter Tryz.func93, Tryz.ntmps93
  go_wp2_with (at_builtin; refine Lib.wpList_append_run _ rfl _ _ _ _ rfl _ _ rfl rfl _ _ (hrun _) ?_)
  go_ret
  exact ⟨G, rfl, hown, hg2⟩

set_option maxHeartbeats 2000000 in
set_option maxRecDepth 100000 in
theorem concatPt_any (A : Option Addr) (n c : Nat) (rs : List RawS) (ls : List (List Pt)) (w : World) (hA : Sl w 0 A rs) (hn : n = rs.length) (hr : Heads w rs ls) (hsum : (flatK ls ls.length).length ≤ 1000000) (h0 : 0 < (flatK ls ls.length).length) :
    Calls Tryz.prog 78 #[.slice A n c] w fun e w' => ∃ A' c', e = .returned (.slice A' (flatK ls ls.length).length c') ∧ Own w' w.heap.size 29 A' c' (flatK ls ls.length) ∧ w.grownBy w' none := by
  subst hn
  have hm := hA.1
  unfold maxLen at hm
  have hlen := hr.len
  obtain ⟨i0, hi, hz, h1, h2⟩ := info_parts info_pt
  have hle := hide (flatK_le ls)
  replace hlen := hide hlen
  go_enter Tryz.func78, Tryz.ntmps78
  go_wp2_with fail
  go_loopw [3, 11] (fun s i wr => ∃ k : Nat, k ≤ rs.length ∧ i = .int .i64 k ∧ s = .int .i64 ((flatK ls k).length : Nat) ∧ w.grownBy wr none) (fun _ i _ => rs.length - (intOf i).toNat)
  case atStart => exact ⟨0, Nat.zero_le _, rfl, rfl, World.grownBy.refl _ _⟩
  case round =>
    obtain ⟨k, hk, rfl, rfl, hg⟩ := hrel
    have hfk := hle.out k
    by_cases hlt : k < rs.length
    · have hlt2 : k < ls.length := by rw [← hlen.out]; exact hlt
      obtain ⟨e1, ⟨ad, e2⟩, hsl⟩ := hr.get k hlt hlt2
      obtain ⟨g, o, cx, rfl, hb0, hb1, rfl, hc⟩ := (hA.pure hg).at_ (by decide) hlt
      have c0 : wr.cell? ⟨g, o + k, none⟩ = some (.slice (some ad) ls[k].length rs[k].c) := by have := hc 0 _ rfl; rw [show Enc.sz RawS = 1 from rfl, Nat.mul_one, e2, e1] at this; exact this
      clear hc e1 e2
      have hfs := congrArg List.length (flatK_snoc hlt2)
      rw [List.length_append] at hfs
      have hfk1 := hle.out (k + 1)
      rw [hfs] at hfk1
      replace hfs := hide hfs
      go_wp2_with fail
      (go_roundw; (case rel => exact ⟨k + 1, by omega, by go_num, by rw [hfs.out]; go_num, (by repeat (first | exact World.grownBy.refl _ _ | assumption | refine gr_alloc ?_ _ | (apply gr_tail; assumption) | refine gr_drewN ?_ _ | refine gr_drew ?_))⟩); (case measure => simp [intOf]; omega))
    · have he : Hid (flatK ls k = flatK ls ls.length) := by rw [Hid, show k = ls.length by have := hlen.out; omega]
      rw [he.out]
      go_wp2_with fail
      refine (growPt_any (flatK ls ls.length).length _ h0 hsum).mono ?_
      rintro e w2 ⟨G, rfl, hown, hg2⟩
      have hgw : w.grownBy w2 none := (by repeat (first | exact World.grownBy.refl _ _ | assumption | refine gr_alloc ?_ _ | (apply gr_tail; assumption) | refine gr_drewN ?_ _ | refine gr_drew ?_))
      have hown := hown.lower hg.size
      clear hg2 hg he hfk
      rename World => wq
      go_wp2_with fail
      go_loopw [6, 27] (fun s i wr => ∃ (k : Nat) (A' : Option Addr) (c' : Nat), k ≤ rs.length ∧ i = .int .i64 k ∧ s = .slice A' (flatK ls k).length c' ∧ Own wr w.heap.size 29 A' c' (flatK ls k) ∧ w.grownBy wr none) (fun _ i _ => rs.length - (intOf i).toNat)
      case atStart => exact ⟨0, _, _, Nat.zero_le _, rfl, rfl, hown, hgw⟩
      case round =>
        obtain ⟨k, A', c', hk, rfl, rfl, hown, hg⟩ := hrel
        by_cases hlt : k < rs.length
        · have hlt2 : k < ls.length := by rw [← hlen.out]; exact hlt
          obtain ⟨e1, ⟨ad, e2⟩, hsl⟩ := hr.get k hlt hlt2
          obtain ⟨g, o, cx, rfl, hb0, hb1, rfl, hc⟩ := (hA.pure hg).at_ (by decide) hlt
          have c0 : wr.cell? ⟨g, o + k, none⟩ = some (.slice (some ad) ls[k].length rs[k].c) := by have := hc 0 _ rfl; rw [show Enc.sz RawS = 1 from rfl, Nat.mul_one, e2, e1] at this; exact this
          rw [e2] at hsl
          clear hc e1 e2
          have hfs := congrArg List.length (flatK_snoc hlt2)
          rw [List.length_append] at hfs
          have hfk1 := hle.out (k + 1)
          rw [hfs] at hfk1
          replace hfs := hide hfs
          have hsn := hide (flatK_snoc hlt2)
          go_wp2_with (at_builtin; refine wpList_push (α := Pt) _ rfl (.tmp 31) (.tmp 32) _ rfl w.heap.size 29 i0 _ 16 Tryz.underlying56 hi hz h1 h2 rfl _ _ _ (flatK ls k) rfl rfl (by exact hown) 0 ad _ _ ls[k] rfl rfl (by exact hsl.pure hg) ?c2 ?c3 ?c4 ?_)
          case c2 => omega
          case c3 => unfold maxLen; omega
          case c4 => exact hg.size
          intro A2 c2 w3 hown3 hup
          rw [← hsn.out] at hown3
          have hl3 : Hid ((flatK ls k).length + ls[k].length = (flatK ls (k + 1)).length) := by rw [Hid, hsn.out, List.length_append]
          go_wp2
          (go_roundw; (case rel => exact ⟨k + 1, A2, c2, by omega, by go_num, by rw [← hl3.out], hown3, hup.gr (Nat.le_refl _) hg⟩); (case measure => simp [intOf]; omega))
        · have he : Hid (flatK ls k = flatK ls ls.length) := by rw [Hid, show k = ls.length by have := hlen.out; omega]
          rw [he.out] at hown
          go_wp2
          go_ret
          exact ⟨A', c', by rw [he.out]; exact rfl, hown, hg⟩

set_option maxHeartbeats 2000000 in
theorem reversePt_any (lo g c : Nat) (l : List Pt) (w : World) (ho : Own w lo 29 (some ⟨g, 0, none⟩) c l) (hn : 0 < l.length) (hs : l.length ≤ 1000000) :
    Calls Tryz.prog 95 #[.slice (some ⟨g, 0, none⟩) l.length c] w fun e w' => (∃ v, e = .returned v) ∧ Own w' lo 29 (some ⟨g, 0, none⟩) c l.reverse ∧ w.grownBy w' (some g) := by
  go_enter Tryz.func95, Tryz.ntmps95
  go_wp2_with fail
  go_loopw [2, 3] (fun i j wr => ∃ k : Nat, 2 * k ≤ l.length ∧ i = .int .i64 k ∧ j = .int .i64 ((l.length : Int) - 1 - k) ∧ Own wr lo 29 (some ⟨g, 0, none⟩) c (revK l k) ∧ w.grownBy wr (some g)) (fun i j _ => (intOf j - intOf i + 2).toNat)
  case atStart => exact ⟨0, by omega, rfl, by simp, by rw [revK_zero]; exact ho, World.grownBy.refl _ _⟩
  case round =>
    obtain ⟨k, hk, rfl, rfl, hown, hg⟩ := hrel
    by_cases hlt : 2 * k + 1 < l.length
    · obtain ⟨m, hm⟩ : ∃ m : Nat, m + k + 1 = l.length := ⟨l.length - 1 - k, by omega⟩
      have hkm : k < m := by omega
      have hml : m < l.length := by omega
      have hkl : k < l.length := by omega
      have hj : (l.length : Int) - 1 - k = (m : Int) := by omega
      rw [hj]
      obtain ⟨a0, a1⟩ := hown.cell_pt (i := k) (by rw [revK_len]; omega)
      obtain ⟨b0, b1⟩ := hown.cell_pt (i := m) (by rw [revK_len]; omega)
      rw [revK_lo' hm hkm] at a0 a1
      rw [revK_hi' hm hkm] at b0 b1
      have h1 := (hown.set_pt (i := k) (by rw [revK_len]; omega) l[m]).set_pt (i := m) (by simp [revK_len]; omega) l[k]
      rw [← revK_succ' hm hkm] at h1
      have f0 := hown.frozen (k * 2)
      have f1 := hown.frozen (k * 2 + 1)
      have f2 := hown.frozen (m * 2)
      have f3 := hown.frozen (m * 2 + 1)
      replace hm := hide hm
      replace h1 := hide h1
      clear hj hlt
      go_wp2_with fail
      go_region
      all_goals
        go_wp2
        go_roundw
        case rel => exact ⟨k + 1, by have := hm.out; omega, by go_num, by have := hm.out; congr 1; simp; omega, h1.out.pure (gr_drew (World.grownBy.refl _ _)), gr_drew (gr_set (gr_set (gr_set (gr_set hg (.inl rfl) _) (.inl rfl) _) (.inl rfl) _) (.inl rfl) _)⟩
        case measure => simp [intOf]; omega
    · have he : Hid (revK l k = l.reverse) := revK_all (by omega)
      go_wp2_with fail
      go_end0
      exact ⟨⟨_, rfl⟩, by rw [← he.out]; exact hown, hg⟩

end Go.Proofs.YtmhnjpcjagbdhaaGreat

namespace Go.Proofs.YtmhnjpcjagbdhaaGreat
open Go.RowKit Go.Bl

theorem info_ring : (Tryz.prog.info? 57).map (fun i => (i.zero, i.size, i.bytes)) = some (some (.slice none 0 0), 1, 24) := by kernel_rfl

set_option maxHeartbeats 2000000 in
theorem reverseRing_any (lo g c : Nat) (l : List Pt) (w : World) (ho : Own w lo 29 (some ⟨g, 0, none⟩) c l) (hn : 0 < l.length) (hs : l.length ≤ 1000000) :
    Calls Tryz.prog 61 #[.slice (some ⟨g, 0, none⟩) l.length c] w fun e w' => (∃ v, e = .returned v) ∧ Own w' lo 29 (some ⟨g, 0, none⟩) c l.reverse ∧ w.grownBy w' (some g) := by
  go_enter Tryz.func61, Tryz.ntmps61
  go_wp2_with fail
  go_loopw [2, 3] (fun i j wr => ∃ k : Nat, 2 * k ≤ l.length ∧ i = .int .i64 k ∧ j = .int .i64 ((l.length : Int) - 1 - k) ∧ Own wr lo 29 (some ⟨g, 0, none⟩) c (revK l k) ∧ w.grownBy wr (some g)) (fun i j _ => (intOf j - intOf i + 2).toNat)
  case atStart => exact ⟨0, by omega, rfl, by simp, by rw [revK_zero]; exact ho, World.grownBy.refl _ _⟩
  case round =>
    obtain ⟨k, hk, rfl, rfl, hown, hg⟩ := hrel
    by_cases hlt : 2 * k + 1 < l.length
    · obtain ⟨m, hm⟩ : ∃ m : Nat, m + k + 1 = l.length := ⟨l.length - 1 - k, by omega⟩
      have hkm : k < m := by omega
      have hml : m < l.length := by omega
      have hkl : k < l.length := by omega
      have hj : (l.length : Int) - 1 - k = (m : Int) := by omega
      rw [hj]
      obtain ⟨a0, a1⟩ := hown.cell_pt (i := k) (by rw [revK_len]; omega)
      obtain ⟨b0, b1⟩ := hown.cell_pt (i := m) (by rw [revK_len]; omega)
      rw [revK_lo' hm hkm] at a0 a1
      rw [revK_hi' hm hkm] at b0 b1
      have h1 := (hown.set_pt (i := k) (by rw [revK_len]; omega) l[m]).set_pt (i := m) (by simp [revK_len]; omega) l[k]
      rw [← revK_succ' hm hkm] at h1
      have f0 := hown.frozen (k * 2)
      have f1 := hown.frozen (k * 2 + 1)
      have f2 := hown.frozen (m * 2)
      have f3 := hown.frozen (m * 2 + 1)
      replace hm := hide hm
      replace h1 := hide h1
      clear hj hlt
      go_wp2_with fail
      go_region
      all_goals
        go_wp2
        go_roundw
        case rel => exact ⟨k + 1, by have := hm.out; omega, by go_num, by have := hm.out; congr 1; simp; omega, h1.out.pure (gr_drew (World.grownBy.refl _ _)), gr_drew (gr_set (gr_set (gr_set (gr_set hg (.inl rfl) _) (.inl rfl) _) (.inl rfl) _) (.inl rfl) _)⟩
        case measure => simp [intOf]; omega
    · have he : Hid (revK l k = l.reverse) := revK_all (by omega)
      go_wp2_with fail
      go_end0
      exact ⟨⟨_, rfl⟩, by rw [← he.out]; exact hown, hg⟩

end Go.Proofs.YtmhnjpcjagbdhaaGreat

/- Contracts of functions that this seat's laws reach, each: what one call returns and what it leaves in memory; no condition beyond each theorem's own hypotheses. -/
import Derived.Test.YtejmbaiioblfeaaGreatDoorZqPathF
import Derived.Test.YtejmbaiioblfeaaGreatDoorZqNestCat
set_option linter.unusedVariables false
set_option linter.unusedSimpArgs false
namespace Go.Bl

theorem Own.set_pt {w : World} {lo : Nat} {e : TypeId} {g c : Nat} {l : List Pt} (h : Own w lo e (some ⟨g, 0, none⟩) c l) {i : Nat} (hi : i < l.length) (p : Pt) :
    Own ((w.setCell ⟨g, i * 2, none⟩ (.int .i64 p.x)).setCell ⟨g, i * 2 + 1, none⟩ (.int .i64 p.y)) lo e (some ⟨g, 0, none⟩) c (l.set i p) := by
  have h1 := h.put hi (j := 0) (x := ⟨p.x, l[i].y⟩) (u := .int .i64 p.x) (by decide) (by rintro c1 rfl; rfl)
  have h2 := h1.put (i := i) (j := 1) (x := p) (u := .int .i64 p.y) (by simpa using hi) (by decide) (by rintro c1 hc; simp at hc; rw [hc]; rfl)
  simp only [List.set_set] at h2
  exact h2

theorem Own.cell_pt {w : World} {lo : Nat} {e : TypeId} {g c : Nat} {l : List Pt} (h : Own w lo e (some ⟨g, 0, none⟩) c l) {i : Nat} (hi : i < l.length) : w.cell? ⟨g, i * 2, none⟩ = some (.int .i64 l[i].x) ∧ w.cell? ⟨g, i * 2 + 1, none⟩ = some (.int .i64 l[i].y) := by
  obtain ⟨c1, rfl, hc⟩ := h.cell_at (by decide) hi
  exact ⟨hc 0 _ rfl, hc 1 _ rfl⟩

end Go.Bl
namespace Go.Proofs.YtejmbaiioblfeaaGreatDoor
open Go.RowKit Go.Bl

end Go.Proofs.YtejmbaiioblfeaaGreatDoor

namespace Go.Proofs.YtejmbaiioblfeaaGreatDoor
open Go.RowKit Go.Bl

theorem info_ring : (Tryz.prog.info? 36).map (fun i => (i.zero, i.size, i.bytes)) = some (some (.slice none 0 0), 1, 24) := by kernel_rfl

set_option maxHeartbeats 2000000 in
theorem reverseRing_any (lo g c : Nat) (l : List Pt) (w : World) (ho : Own w lo 29 (some ⟨g, 0, none⟩) c l) (hn : 0 < l.length) (hs : l.length ≤ 1000000) :
    Calls Tryz.prog 13 #[.slice (some ⟨g, 0, none⟩) l.length c] w fun e w' => (∃ v, e = .returned v) ∧ Own w' lo 29 (some ⟨g, 0, none⟩) c l.reverse ∧ w.grownBy w' (some g) := by
  go_enter Tryz.func13, Tryz.ntmps13
  go_wp2_with fail
  go_loopw [2, 3] (fun i j wr => ∃ k : Nat, 2 * k ≤ l.length ∧ i = .int .i64 k ∧ j = .int .i64 ((l.length : Int) - 1 - k) ∧ Own wr lo 29 (some ⟨g, 0, none⟩) c (revK l k) ∧ w.grownBy wr (some g)) (fun i j _ => (intOf j - intOf i + 2).toNat)
  case atStart => exact ⟨0, by omega, rfl, by simp, by rw [revK_zero]; exact ho, World.grownBy.refl _ _⟩
  case round =>
    obtain ⟨k, hk, rfl, rfl, hown, hg⟩ := hrel
    by_cases hlt : 2 * k + 1 < l.length
    · obtain ⟨m, hm⟩ : ∃ m : Nat, m + k + 1 = l.length := ⟨l.length - 1 - k, by omega⟩
      have hkm : k < m := by omega
      have hml : m < l.length := by omega
      have hkl : k < l.length := by omega
      have hj : (l.length : Int) - 1 - k = (m : Int) := by omega
      rw [hj]
      obtain ⟨a0, a1⟩ := hown.cell_pt (i := k) (by rw [revK_len]; omega)
      obtain ⟨b0, b1⟩ := hown.cell_pt (i := m) (by rw [revK_len]; omega)
      rw [revK_lo' hm hkm] at a0 a1
      rw [revK_hi' hm hkm] at b0 b1
      have h1 := (hown.set_pt (i := k) (by rw [revK_len]; omega) l[m]).set_pt (i := m) (by simp [revK_len]; omega) l[k]
      rw [← revK_succ' hm hkm] at h1
      have f0 := hown.frozen (k * 2)
      have f1 := hown.frozen (k * 2 + 1)
      have f2 := hown.frozen (m * 2)
      have f3 := hown.frozen (m * 2 + 1)
      replace hm := hide hm
      replace h1 := hide h1
      clear hj hlt
      go_wp2_with fail
      go_region
      all_goals
        go_wp2
        go_roundw
        case rel => exact ⟨k + 1, by have := hm.out; omega, by go_num, by have := hm.out; congr 1; simp; omega, h1.out.pure (gr_drew (World.grownBy.refl _ _)), gr_drew (gr_set (gr_set (gr_set (gr_set hg (.inl rfl) _) (.inl rfl) _) (.inl rfl) _) (.inl rfl) _)⟩
        case measure => simp [intOf]; omega
    · have he : Hid (revK l k = l.reverse) := revK_all (by omega)
      go_wp2_with fail
      go_end0
      exact ⟨⟨_, rfl⟩, by rw [← he.out]; exact hown, hg⟩

end Go.Proofs.YtejmbaiioblfeaaGreatDoor

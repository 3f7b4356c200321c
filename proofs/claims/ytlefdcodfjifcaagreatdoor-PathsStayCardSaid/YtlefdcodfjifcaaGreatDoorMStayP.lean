/- Contracts of functions that this seat's laws reach, each: what one call returns and what it leaves in memory; no condition beyond each theorem's own hypotheses. -/
import Derived.Test.YtlefdcodfjifcaaGreatDoorMImprA
import Derived.Test.YtlefdcodfjifcaaGreatDoorMPrintData
import Derived.Test.YtlefdcodfjifcaaGreatDoorMChainBT
set_option linter.unusedVariables false
set_option linter.unusedSimpArgs false
namespace Go.Proofs.YtlefdcodfjifcaaGreatDoor
open Go Go.RowKit Go.Bl

set_option maxHeartbeats 1600000 in
theorem sameVis_any (A : Option Addr) (c : Nat) (l : List Vis) (B : Option Addr) (d : Nat) (w : World) (hl : Sl w 0 A l) (hm : Sl w 0 B l) :
    Calls Tryz.prog 40 #[.slice A l.length c, .slice B l.length d] w fun e w' => e = .returned (.bool true) ∧ w.grownBy w' none := by
  have hm1 := hl.1
  unfold maxLen at hm1
  go_enter Tryz.func40, Tryz.ntmps40
  go_wp2
  go_loopw [13] (fun i wr => ∃ k : Nat, k ≤ l.length ∧ i = .int .i64 k ∧ w.grownBy wr none) (fun i _ => l.length - (intOf i).toNat)
  case atStart => exact ⟨0, Nat.zero_le _, rfl, World.grownBy.refl _ _⟩
  case round =>
    obtain ⟨k, hk, rfl, hg⟩ := hrel
    by_cases hlt : k < l.length
    · obtain ⟨g, o, cx, rfl, hb0, hb1, rfl, hc⟩ := (hl.pure hg).at_ (by decide) hlt
      have c0 : wr.cell? ⟨g, o + k * 3, none⟩ = some (.int .i64 l[k].path) := hc 0 _ rfl
      have c1 : wr.cell? ⟨g, o + k * 3 + 1, none⟩ = some (.int .i64 l[k].start) := hc 1 _ rfl
      have c2 : wr.cell? ⟨g, o + k * 3 + 2, none⟩ = some (.bool l[k].back) := hc 2 _ rfl
      clear hc
      obtain ⟨g', o', cx, rfl, hb0', hb1', rfl, hc⟩ := (hm.pure hg).at_ (by decide) hlt
      have c0' : wr.cell? ⟨g', o' + k * 3, none⟩ = some (.int .i64 l[k].path) := hc 0 _ rfl
      have c1' : wr.cell? ⟨g', o' + k * 3 + 1, none⟩ = some (.int .i64 l[k].start) := hc 1 _ rfl
      have c2' : wr.cell? ⟨g', o' + k * 3 + 2, none⟩ = some (.bool l[k].back) := hc 2 _ rfl
      clear hc
      have hi0 : (0 : Int) ≤ (k : Int) ∧ (k : Int) < l.length := by omega
      go_wp2_with fail
      go_quiet (fail)
      go_wp2
      (go_roundw; (case rel => exact ⟨k + 1, by omega, by go_num, gr_drewN hg _⟩); (case measure => simp [intOf]; omega))
    · go_wp2
      go_ret
      exact ⟨rfl, hg⟩

/-- the points of a path in a row may be spoiled -/
def Spo (w : World) (lo : Nat) (A : Option Addr) (r : RawP) : Prop := ∀ j, j < r.n → ∃ g o x, r.A = some ⟨g, o, none⟩ ∧ lo ≤ g ∧ blk A ≠ some g ∧ Cell w g (o + j * 2) (.int .i64 x)

theorem Spo.gr {w w' : World} {lo : Nat} {A : Option Addr} {r : RawP} (h : Spo w lo A r) (hg : w.grownBy w' none) : Spo w' lo A r := fun j hj => by
  obtain ⟨g, o, x, h1, h2, h3, h4⟩ := h j hj
  exact ⟨g, o, x, h1, h2, h3, h4.gr hg (by simp)⟩

theorem Spo.set {w : World} {lo : Nat} {A : Option Addr} {r : RawP} (h : Spo w lo A r) (g' i : Nat) (v : Int) : Spo (w.setCell ⟨g', i, none⟩ (.int .i64 v)) lo A r := fun j hj => by
  obtain ⟨g, o, x, h1, h2, h3, h4⟩ := h j hj
  by_cases e : g' = g ∧ i = o + j * 2
  · obtain ⟨rfl, rfl⟩ := e
    exact ⟨g', o, v, h1, h2, h3, h4.set_ _⟩
  · refine ⟨g, o, x, h1, h2, h3, ?_⟩
    by_cases e2 : g' = g
    · subst e2
      exact h4.set_ne _ (fun e3 => e ⟨rfl, e3⟩)
    · exact h4.gr (gr_set (World.grownBy.refl w (some g')) (p := ⟨g', i, none⟩) (.inl rfl) _) (fun e3 => e2 (by injection e3))

theorem Spo.of {w : World} {lo : Nat} {A : Option Addr} {r : RawP} {x : PathV} (h : NOkT w lo A r x) : Spo w lo A r := fun j hj => by
  obtain ⟨⟨⟨h1, h2, h3, h4, h5⟩, h6⟩, h7⟩ := h
  have hj2 : j < x.pts.length := by rw [← h1]; exact hj
  obtain ⟨g, o, cx, e, hb0, hb1, rfl, hc⟩ := h4.at_ (by decide) hj2
  have hb : blk r.A = some g := by rw [e]; rfl
  exact ⟨g, o, _, e, hb0, h6 g hb, hc 0 _ rfl, h7 g hb _⟩

end Go.Proofs.YtlefdcodfjifcaaGreatDoor

/- Contracts of functions that this seat's laws reach, each: what one call returns and what it leaves in memory; no condition beyond each theorem's own hypotheses. -/
import Derived.Test.YtmhnjpcjagbdhaaGreatZqPathF
import Derived.Test.YtmhnjpcjagbdhaaGreatZqJm
set_option linter.unusedVariables false
set_option linter.unusedSimpArgs false
namespace Go.Proofs.YtmhnjpcjagbdhaaGreat
open Go Go.RowKit Go.Bl

set_option maxHeartbeats 800000 in
theorem samePathCl_any (x : PathV) (A B : Option Addr) (c d : Nat) (w : World) (h1 : Sl w 0 A x.pts) (h2 : Sl w 0 B x.pts) :
    Calls Tryz.prog 58 #[.agg #[.slice A x.pts.length c, .bool x.cl], .agg #[.slice B x.pts.length d, .bool x.cl]] w fun e w' => e = .returned (.bool true) ∧ w.grownBy w' none := by
  go_enter Tryz.func58, Tryz.ntmps58
  go_wp2_with fail
  have hE := fun wx (hx : w.grownBy wx none) => equalPt_any A c x.pts B d x.pts wx (h1.pure hx) (h2.pure hx)
  simp only [show eqB x.pts x.pts = true by simp [eqB]] at hE
  refine (hE _ (gr_alloc (gr_alloc (World.grownBy.refl _ _) _) _)).mono ?_
  rintro e w1 ⟨rfl, hg⟩
  go_wp2_with fail
  go_ret
  exact ⟨rfl, gr_trans (gr_alloc (gr_alloc (World.grownBy.refl _ _) _) _) hg⟩

set_option maxHeartbeats 1600000 in
theorem samePaths_same (A : Option Addr) (c : Nat) (l : List PathV) (B : Option Addr) (d : Nat) (w : World) (hl : Sl w 0 A l) (hm : Sl w 0 B l) :
    Calls Tryz.prog 22 #[.slice A l.length c, .slice B l.length d] w fun e w' => e = .returned (.bool true) ∧ w.grownBy w' none := by
  have hEF : Calls Tryz.prog 57 #[.slice A l.length c, .slice B l.length d, .func (.func 58) #[] #[]] w fun e w' => e = .returned (.bool true) ∧ w.grownBy w' none := by
    have hm1 := hl.1
    unfold maxLen at hm1
    go_enter Tryz.func57, Tryz.ntmps57
    go_wp2
    go_loopw [17] (fun i wr => ∃ k : Nat, k ≤ l.length ∧ i = .int .i64 k ∧ w.grownBy wr none) (fun i _ => l.length - (intOf i).toNat)
    case atStart => exact ⟨0, Nat.zero_le _, rfl, World.grownBy.refl _ _⟩
    case round =>
      obtain ⟨k, hk, rfl, hg⟩ := hrel
      by_cases hlt : k < l.length
      · obtain ⟨g, o, cx, rfl, hb0, hb1, ⟨A', c', rfl, hcp, hpts⟩, hc⟩ := (hl.pure hg).at_ (by decide) hlt
        have c0 : wr.cell? ⟨g, o + k * 2, none⟩ = some (.slice A' l[k].pts.length c') := hc 0 _ rfl
        have c1 : wr.cell? ⟨g, o + k * 2 + 1, none⟩ = some (.bool l[k].cl) := hc 1 _ rfl
        clear hc
        obtain ⟨g2, o2, cx, rfl, hb2, hb3, ⟨A2, c2', rfl, hcp2, hpts2⟩, hc⟩ := (hm.pure hg).at_ (by decide) hlt
        have d0 : wr.cell? ⟨g2, o2 + k * 2, none⟩ = some (.slice A2 l[k].pts.length c2') := hc 0 _ rfl
        have d1 : wr.cell? ⟨g2, o2 + k * 2 + 1, none⟩ = some (.bool l[k].cl) := hc 1 _ rfl
        clear hc
        go_upto_region 6 with fail
        obtain ⟨w8, hw8⟩ : ∃ x, x = (wr).alloc (.cells [.slice A' l[k].pts.length c', .bool l[k].cl].toArray 62) := ⟨_, rfl⟩
        have hg8 : (wr).grownBy w8 none := by rw [hw8]; exact gr_alloc (World.grownBy.refl _ _) _
        have hb8 : Box w8 (wr).heap.size 62 [.slice A' l[k].pts.length c', .bool l[k].cl] := by rw [hw8]; exact Box.new _ _ _
        have hxs8 := hb8.lt
        rw [← hw8]
        clear hw8
        obtain ⟨x8, hx8⟩ : ∃ x, x = (wr).heap.size := ⟨_, rfl⟩
        rw [← hx8] at hb8 hxs8 ⊢
        have hxl8 : (wr).heap.size ≤ x8 := by omega
        clear hx8
        replace d0 := hg8.k d0
        replace d1 := hg8.k d1
        clear c0 c1
        have hi0 : (0 : Int) ≤ (k : Int) ∧ (k : Int) < l.length := by omega
        go_upto_region 7 with fail
        obtain ⟨w9, hw9⟩ : ∃ x, x = (w8).alloc (.cells [.slice A2 l[k].pts.length c2', .bool l[k].cl].toArray 62) := ⟨_, rfl⟩
        have hg9 : (w8).grownBy w9 none := by rw [hw9]; exact gr_alloc (World.grownBy.refl _ _) _
        have hb9 : Box w9 (w8).heap.size 62 [.slice A2 l[k].pts.length c2', .bool l[k].cl] := by rw [hw9]; exact Box.new _ _ _
        have hxs9 := hb9.lt
        rw [← hw9]
        clear hw9
        obtain ⟨x9, hx9⟩ : ∃ x, x = (w8).heap.size := ⟨_, rfl⟩
        rw [← hx9] at hb9 hxs9 ⊢
        have hxl9 : (w8).heap.size ≤ x9 := by omega
        clear hx9
        obtain ⟨b0, _⟩ := (hb8.pure hg9).c 0 rfl
        obtain ⟨b1, _⟩ := (hb8.pure hg9).c 1 rfl
        obtain ⟨b2, _⟩ := hb9.c 0 rfl
        obtain ⟨b3, _⟩ := hb9.c 1 rfl
        clear d0 d1
        go_wp2_with fail
        refine (samePathCl_any l[k] _ _ _ _ _ ((hpts.mono (Nat.zero_le _)).pure (hg8.t hg9)) ((hpts2.mono (Nat.zero_le _)).pure (hg8.t hg9))).mono ?_
        rintro e w10 ⟨rfl, hg10⟩
        go_wp2_with fail
        (go_roundw; (case rel => exact ⟨k + 1, by omega, by go_num, hg.t (hg8.t (hg9.t hg10))⟩); (case measure => simp [intOf]; omega))
      · go_wp2
        go_ret
        exact ⟨rfl, hg⟩
  go_enter Tryz.func22, Tryz.ntmps22
  go_wp2_with fail
  refine hEF.mono ?_
  rintro e w1 ⟨rfl, hg⟩
  go_wp2_with fail
  go_ret
  exact ⟨rfl, hg⟩

def closedN (l : List PathV) : Nat := l.countP fun p => p.cl

def pointsN (l : List PathV) : Nat := (l.map fun p => p.pts.length).sum

theorem closedN_snoc {l : List PathV} {k : Nat} (h : k < l.length) : closedN (l.take (k + 1)) = closedN (l.take k) + (if l[k].cl then 1 else 0) := by
  unfold closedN; rw [take_snoc h, List.countP_append]; simp [List.countP_cons]

theorem pointsN_snoc {l : List PathV} {k : Nat} (h : k < l.length) : pointsN (l.take (k + 1)) = pointsN (l.take k) + l[k].pts.length := by
  unfold pointsN; rw [take_snoc h, List.map_append, List.sum_append]; simp

theorem pointsN_le {l : List PathV} (k : Nat) : pointsN (l.take k) ≤ pointsN l := by
  unfold pointsN
  have : l.map (fun p => p.pts.length) = (l.take k).map (fun p => p.pts.length) ++ (l.drop k).map (fun p => p.pts.length) := by rw [← List.map_append, List.take_append_drop]
  rw [this, List.sum_append]; omega

end Go.Proofs.YtmhnjpcjagbdhaaGreat

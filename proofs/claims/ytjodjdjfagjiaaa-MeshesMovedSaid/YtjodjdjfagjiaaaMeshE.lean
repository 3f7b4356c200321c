/- Contracts of functions that this seat's laws reach, each: what one call returns and what it leaves in memory; no condition beyond each theorem's own hypotheses. -/
import Derived.Test.YtjodjdjfagjiaaaMeshD
set_option linter.unusedVariables false
set_option linter.unusedSimpArgs false
namespace Go.Proofs.Ytjodjdjfagjiaaa
open Go.RowKit Go.Bl

theorem _root_.Go.Bl.sl_litAt {α : Type} [Enc α] (w : World) (lo : Nat) (cs : List Value) (t : TypeId) (l : List α) (g : Nat) (hg : g = w.heap.size) (hlo : lo ≤ w.heap.size) (hm : l.length ≤ maxLen) (hr : Row (w.alloc (.cells cs.toArray t)) lo l cs) :
    Sl (w.alloc (.cells cs.toArray t)) lo (some ⟨g, 0, none⟩) l := by
  subst hg
  exact sl_lit w lo cs t l hlo hm hr

set_option maxHeartbeats 800000 in
theorem sides_any (f : Fc) (w : World) :
    Calls Try.prog 93 #[.agg #[.int .i64 f.a, .int .i64 f.b, .int .i64 f.c]] w fun e w' => e = .returned (.agg #[.int .i64 f.a, .int .i64 f.b, .int .i64 f.b, .int .i64 f.c, .int .i64 f.c, .int .i64 f.a]) ∧ w.grownBy w' none := by
  go_enter Try.func93, Try.ntmps93
  go_wp2_with fail
  refine bodyPost_ret (v := .agg #[.int .i64 f.a, .int .i64 f.b, .int .i64 f.b, .int .i64 f.c, .int .i64 f.c, .int .i64 f.a]) (by simp [results, Try.results93, go_sem]) rfl ⟨rfl, (by repeat (first | exact World.grownBy.refl _ _ | assumption | refine gr_alloc ?_ _ | (apply gr_tail; assumption) | refine gr_drewN ?_ _ | refine gr_drew ?_))⟩

set_option maxHeartbeats 800000 in
theorem sidesOf_any (f : Fc) (w : World) :
    Calls Try.prog 46 #[.agg #[.int .i64 f.a, .int .i64 f.b, .int .i64 f.c]] w fun e w' => ∃ A, e = .returned (.slice A 3 3) ∧ Sl w' w.heap.size A (sdsOf f) ∧ w.grownBy w' none := by
  go_enter Try.func46, Try.ntmps46
  go_wp2_with fail
  go_ret
  exact ⟨_, rfl, sl_litAt _ _ _ _ _ _ (by simp) (by simp) (by simp [sdsOf, maxLen]) ⟨_, _, rfl, rfl, _, _, rfl, rfl, _, _, rfl, rfl, rfl⟩, (by repeat (first | exact World.grownBy.refl _ _ | assumption | refine gr_alloc ?_ _ | (apply gr_tail; assumption) | refine gr_drewN ?_ _ | refine gr_drew ?_))⟩

theorem notin_snoc {l : List Sd} {s : Sd} {k : Nat} (h : k < l.length) (h1 : s ∉ l.take k) (h2 : s ≠ l[k]) : s ∉ l.take (k + 1) := by
  rw [take_snoc h, List.mem_append]
  rintro (e | e)
  · exact h1 e
  · exact h2 (List.mem_singleton.1 e)

set_option maxHeartbeats 800000 in
theorem indexSide_any (A : Option Addr) (c : Nat) (l : List Sd) (s : Sd) (w : World) (hl : Sl w 0 A l) :
    Calls Try.prog 91 #[.slice A l.length c, .agg #[.int .i64 s.u, .int .i64 s.v]] w fun e w' => ∃ r : Int, e = .returned (.int .i64 r) ∧ decide (0 ≤ r) = decide (s ∈ l) ∧ w.grownBy w' none := by
  have hm := hl.1
  unfold maxLen at hm
  have hg0 := gr_alloc (World.grownBy.refl w none) (.cells #[.int .i64 s.u, .int .i64 s.v] 79)
  have b0 := hide ((Cell.new w [.int .i64 s.u, .int .i64 s.v] 79 0 _ rfl _ rfl).1)
  have b1 := hide ((Cell.new w [.int .i64 s.u, .int .i64 s.v] 79 1 _ rfl _ rfl).1)
  go_enter Try.func91, Try.ntmps91
  go_wp2_with fail
  generalize w.alloc (.cells #[.int .i64 s.u, .int .i64 s.v] 79) = W at *
  have hWW := World.grownBy.refl W none
  go_loopw [8] (fun i wr => ∃ k : Nat, k ≤ l.length ∧ i = .int .i64 k ∧ w.grownBy wr none ∧ W.grownBy wr none ∧ Hid (s ∉ l.take k)) (fun i _ => l.length - (intOf i).toNat)
  case atStart => exact ⟨0, Nat.zero_le _, rfl, hg0, hWW, by simp [Hid]⟩
  case round =>
    obtain ⟨k, hk, rfl, hg, hgW, hall⟩ := hrel
    replace b0 := hgW.k b0.out
    replace b1 := hgW.k b1.out
    by_cases hlt : k < l.length
    · obtain ⟨g, o, cx, rfl, hb0, hb1, rfl, hc⟩ := (hl.pure hg).at_ (by decide) hlt
      have v0 : wr.cell? ⟨g, o + k * 2, none⟩ = some (.int .i64 l[k].u) := hc 0 _ rfl
      have v1 : wr.cell? ⟨g, o + k * 2 + 1, none⟩ = some (.int .i64 l[k].v) := hc 1 _ rfl
      clear hc
      have HI : Hid (l[k].u = s.u → l[k].v = s.v → s ∈ l) := fun h1 h2 => by
        have : s = l[k] := by cases hh : l[k]; cases s; simp_all
        rw [this]; exact List.getElem_mem _
      have HN : Hid (¬ (s.u = l[k].u ∧ s.v = l[k].v) → s ∉ l.take (k + 1)) := fun h => notin_snoc hlt hall.out (fun e => h (by rw [e]; exact ⟨rfl, rfl⟩))
      generalize l[k] = y at *
      go_wp2_with fail
      refine wp_region_fix 5 ((fun wx => wr.grownBy wx none)) (by kernel_rfl) (by kernel_rfl) (gr_drew (World.grownBy.refl _ _)) ?_
      simp only [List.take_succ_cons, List.take_zero, List.drop_succ_cons, List.drop_zero]
      iterate 5 ((refine fix_b (fun K hK => ?_); apply Exists.intro; refine ⟨fun wx hC K' hK' => ?_, ?_⟩; (focus (replace hK' := hide hK'; (have c0 := hC.k b0; have c1 := hC.k b1; have c2 := hC.k v0; have c3 := hC.k v1); go_wp2_with fail; exact hK'.out _ hC)); go_simp; refine hK _ ?_; clear hK K))
      refine fix_nil ?_
      intro wz hC
      replace hg := gr_trans hg hC
      replace hgW := gr_trans hgW hC
      obtain ⟨su, sv⟩ := s
      obtain ⟨yu, yv⟩ := y
      simp only at *
      by_cases h1 : su = yu
      · subst h1
        by_cases h2 : sv = yv
        · subst h2
          go_wp2
          go_ret
          exact ⟨k, rfl, by have hX := HI.out trivial trivial; simp [hX], hg⟩
        · go_wp2
          go_roundw
          case rel => exact ⟨k + 1, by omega, by go_num, hg, hgW, HN.out (fun h => h2 h.2)⟩
          case measure => simp [intOf]; omega
      · go_wp2
        go_roundw
        case rel => exact ⟨k + 1, by omega, by go_num, hg, hgW, HN.out (fun h => h1 h.1)⟩
        case measure => simp [intOf]; omega
    · have HB : s ∉ l := by have := hall.out; rwa [List.take_of_length_le (by omega)] at this
      go_wp2
      go_ret
      exact ⟨-1, rfl, by simp [HB], hg⟩

set_option maxHeartbeats 800000 in
theorem containsSide_any (A : Option Addr) (n c : Nat) (l : List Sd) (s : Sd) (w : World) (hl : Sl w 0 A l) (hn : l.length = n) :
    Calls Try.prog 47 #[.slice A n c, .agg #[.int .i64 s.u, .int .i64 s.v]] w fun e w' => e = .returned (.bool (decide (s ∈ l))) ∧ w.grownBy w' none := by
  subst hn
  have hg0 := gr_alloc (World.grownBy.refl w none) (.cells #[.int .i64 s.u, .int .i64 s.v] 79)
  go_enter Try.func47, Try.ntmps47
  go_wp2_with fail
  refine (indexSide_any A c l s _ (hl.pure hg0)).mono ?_
  rintro e w1 ⟨r, rfl, hr, hg⟩
  replace hr := hide hr
  go_wp2_with fail
  go_ret
  exact ⟨ret_bool hr.out, gr_trans hg0 hg⟩

end Go.Proofs.Ytjodjdjfagjiaaa

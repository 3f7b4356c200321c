/- Contracts of functions that this seat's laws reach, each: what one call returns and what it leaves in memory; no condition beyond each theorem's own hypotheses. -/
import Derived.Test.YtcaaephphefncaaPathI
set_option linter.unusedVariables false
set_option linter.unusedSimpArgs false
namespace Go.Proofs.Ytcaaephphefncaa
open Go.RowKit Go.Bl

theorem info_bool : (Try.prog.info? 4).map (fun i => (i.zero, i.size, i.bytes)) = some (some (.bool false), 1, 1) := by kernel_rfl

set_option maxHeartbeats 1000000 in
set_option maxRecDepth 100000 in
theorem orderIn_any (A : Option Addr) (c : Nat) (l : List PathV) (B : Option Addr) (d : Nat) (o : List Vis) (w : World) (hl : Sl w 0 A l) (ho : Sl w 0 B o) (hll : l.length ≤ 200) :
    Calls Try.prog 44 #[.slice A l.length c, .slice B o.length d] w fun e w' => e = .returned (.int .i64 (if o.length ≠ l.length then 3 else visitsF l [] o)) ∧ w.grownBy w' none := by
  by_cases hol : o.length = l.length
  · rw [if_neg (by simp [hol])]
    have hnl : ((o.length : Int) != l.length) = false := by simp [hol]
    have hnl2 : (o.length != l.length) = false := by simp [hol]
    obtain ⟨V, hV⟩ : ∃ V : Int, V = visitsF l [] o := ⟨_, rfl⟩
    rw [← hV]
    have hol2 : o.length ≤ 200 := by omega
    replace hV := hide hV
    replace hol := hide hol
    obtain ⟨i0, hi, hz, h1, h2⟩ := info_parts info_bool
    obtain ⟨w1, hrun, hown, hg1⟩ := run_makeOwn (P := Try.prog) w 100 4 i0 _ false Try.underlying100 hi hz h1 rfl rfl .i64 .i64 l.length (by rw [h2]; omega) (by simp [maxLen]; omega)
    rw [← seenL_nil] at hown
    go_enter Try.func44, Try.ntmps44
    go_wp2_with fail
    clear hrun
    go_loopw [19] (fun i wr => ∃ k : Nat, k ≤ o.length ∧ i = .int .i64 k ∧ w.grownBy wr none ∧ Own wr w.heap.size 4 (some ⟨w.heap.size, 0, none⟩) l.length (seenL l.length (o.take k)) ∧ Hid (visitsF l (o.take k) (o.drop k) = V)) (fun i _ => o.length - (intOf i).toNat)
    case atStart => exact ⟨0, Nat.zero_le _, rfl, hg1, hown, hV.out.symm⟩
    case round =>
      obtain ⟨k, hk, rfl, hg, hown, hdr⟩ := hrel
      by_cases hlt : k < o.length
      · obtain ⟨g, of, cx, rfl, hb0, hb1, rfl, hc⟩ := (ho.pure hg).at_ (by decide) hlt
        have v0 : wr.cell? ⟨g, of + k * 3, none⟩ = some (.int .i64 o[k].path) := hc 0 _ rfl
        have v1 : wr.cell? ⟨g, of + k * 3 + 1, none⟩ = some (.int .i64 o[k].start) := hc 1 _ rfl
        have v2 : wr.cell? ⟨g, of + k * 3 + 2, none⟩ = some (.bool o[k].back) := hc 2 _ rfl
        clear hc
        have HS := visitsF_drop l hlt
        have hsz : w.heap.size < wr.heap.size := (hown.blk_lt (g := w.heap.size) rfl).2
        have HSet : ∀ i : Nat, o[k].path = (i : Int) → seenL l.length (o.take (k + 1)) = (seenL l.length (o.take k)).set i true := fun i hi => seenL_set hlt hi
        generalize o[k] = v at *
        rw [hdr.out] at HS
        have HX : ∀ x, visitF l (o.take k) v = x → (x ≠ 0 → x = V) ∧ (x = 0 → visitsF l (o.take (k + 1)) (o.drop (k + 1)) = V) := fun x hx => by
          rw [hx] at HS
          exact ⟨fun h => by rw [orS_ne h] at HS; exact HS.symm, fun h => by rw [orS_zero h] at HS; exact HS.symm⟩
        clear HS
        by_cases hin : 0 ≤ v.path ∧ v.path < l.length
        · obtain ⟨vp, vs, vb⟩ := v
          simp only at hin v0 v1 v2 HSet
          obtain ⟨j, rfl⟩ := Int.eq_ofNat_of_zero_le hin.1
          have hjl : j < l.length := by omega
          have hjs : j < (seenL l.length (o.take k)).length := by rw [seenL_len]; exact hjl
          have s0 := hown.cell_bool hjs
          rw [seenL_get] at s0
          have f0 := hown.frozen j
          have hset := hown.set_bool hjs true
          rw [← HSet j rfl] at hset
          rcases hh : hasP (o.take k) j with _ | _
          · have HX := HX _ (visitF_new (v := ⟨j, vs, vb⟩) hin hh)
            rw [hh] at s0
            have hsetA := hset.pure (gr_alloc (World.grownBy.refl _ _) (.cells #[.int .i64 j, .int .i64 vs, .bool vb] 34))
            have hsetA := hide hsetA
            replace HX := hide HX
            clear hset HSet hjs
            have hgs := gr_alloc (gr_set hg (.inr (Nat.le_refl _)) (p := ⟨w.heap.size, j, none⟩) (.bool true)) (.cells #[.int .i64 j, .int .i64 vs, .bool vb] 34)
            go_wp2_with fail
            refine (visitForm_any _ _ l ⟨j, vs, vb⟩ _ (hl.pure hgs) hin.1 hin.2).mono ?_
            rintro e w2 ⟨rfl, hg2⟩
            generalize formF (l.getD (⟨j, vs, vb⟩ : Vis).path.toNat default) ⟨j, vs, vb⟩ = X at *
            by_cases hz : X = 0
            · have hb : (X != 0) = false := by simp [hz]
              have HT := hide (HX.out.2 hz)
              clear hz
              go_wp2_with fail
              (go_roundw; (case rel => exact ⟨k + 1, by omega, by go_num, gr_trans hgs hg2, hsetA.out.pure hg2, HT⟩); (case measure => simp [intOf]; omega))
            · have hb : (X != 0) = true := by simp [hz]
              have HT := hide (HX.out.1 hz)
              clear hz
              go_wp2_with fail
              go_ret
              exact ⟨ret_int HT.out, gr_trans hgs hg2⟩
          · have HT : Hid (6 = V) := (HX 6 (visitF_seen (v := ⟨j, vs, vb⟩) hin hh)).1 (by decide)
            rw [hh] at s0
            clear HX HSet hset
            go_wp2_with fail
            go_ret
            exact ⟨ret_int HT.out, (by repeat (first | exact World.grownBy.refl _ _ | assumption | refine gr_alloc ?_ _ | (apply gr_tail; assumption) | refine gr_drewN ?_ _ | refine gr_drew ?_))⟩
        · have HT : Hid (1 = V) := (HX 1 (visitF_out hin)).1 (by decide)
          have hin2 : v.path < 0 ∨ l.length ≤ v.path := by omega
          clear HX HSet hin
          go_wp2_with fail
          all_goals first
            | (go_ret; exact ⟨ret_int HT.out, (by repeat (first | exact World.grownBy.refl _ _ | assumption | refine gr_alloc ?_ _ | (apply gr_tail; assumption) | refine gr_drewN ?_ _ | refine gr_drew ?_))⟩)
            | (exfalso; omega)
      · have HB : Hid (0 = V) := by rw [Hid, ← hdr.out, List.drop_of_length_le (by omega)]; rfl
        go_wp2
        go_ret
        exact ⟨ret_int HB.out, hg⟩
  · rw [if_pos hol]
    have hnl : ((o.length : Int) != l.length) = true := by simp; omega
    have hnl2 : (o.length != l.length) = true := by simp [hol]
    clear hol
    go_enter Try.func44, Try.ntmps44
    go_wp2_with fail
    go_ret
    exact ⟨rfl, World.grownBy.refl _ _⟩

set_option maxHeartbeats 800000 in
theorem checkOrder_any (A : Option Addr) (c : Nat) (l : List PathV) (B : Option Addr) (d : Nat) (o : List Vis) (w : World) (hl : Sl w 0 A l) (ho : Sl w 0 B o) :
    Calls Try.prog 12 #[.slice A l.length c, .slice B o.length d] w fun e w' => e = .returned (.int .i64 (orderF l o)) ∧ w.grownBy w' none := by
  by_cases hz : pathsF l = 0
  · have hb : (pathsF l != 0) = false := by simp [hz]
    have HO : Hid ((if o.length ≠ l.length then 3 else visitsF l [] o) = orderF l o) := by rw [Hid]; unfold orderF; rw [orS_zero hz]
    have hll := (pathsF_zero hz).1
    clear hz
    go_enter Try.func12, Try.ntmps12
    go_wp2_with fail
    refine (checkPaths_any _ _ l _ hl).mono ?_
    rintro e w1 ⟨rfl, hg1⟩
    go_wp2_with fail
    refine (orderIn_any _ _ l _ _ o _ (hl.pure hg1) (ho.pure hg1) hll).mono ?_
    rintro e w2 ⟨rfl, hg2⟩
    rw [HO.out]
    go_wp2_with fail
    go_ret
    exact ⟨rfl, gr_trans hg1 hg2⟩
  · have hb : (pathsF l != 0) = true := by simp [hz]
    have HO := hide (orderF_bad (o := o) hz)
    clear hz
    go_enter Try.func12, Try.ntmps12
    go_wp2_with fail
    refine (checkPaths_any _ _ l _ hl).mono ?_
    rintro e w1 ⟨rfl, hg1⟩
    go_wp2_with fail
    go_ret
    exact ⟨ret_int HO.out.symm, hg1⟩

set_option maxHeartbeats 800000 in
theorem oneFault_any (A : Option Addr) (c : Nat) (l : List PathV) (v : Vis) (w : World) (hl : Sl w 0 A l) :
    Calls Try.prog 45 #[.slice A l.length c, .agg #[.int .i64 v.path, .int .i64 v.start, .bool v.back]] w fun e w' => e = .returned (.int .i64 (oneF l v)) ∧ w.grownBy w' none := by
  have hm := hl.1
  unfold maxLen at hm
  by_cases hz : pathsF l = 0
  · have hb : (pathsF l != 0) = false := by simp [hz]
    have HO : Hid (visitF l [] v = oneF l v) := by rw [Hid]; unfold oneF; rw [orS_zero hz]
    clear hz
    by_cases hin : 0 ≤ v.path ∧ v.path < l.length
    · have HV : Hid (formF (l.getD v.path.toNat default) v = oneF l v) := by rw [Hid, ← HO.out]; exact (visitF_new hin rfl).symm
      have hin1 : ¬ v.path < 0 := by omega
      obtain ⟨hi1, hi2⟩ := hin
      go_enter Try.func45, Try.ntmps45
      go_wp2_with fail
      refine (checkPaths_any _ _ l _ (hl.pure (gr_alloc (World.grownBy.refl _ _) _))).mono ?_
      rintro e w1 ⟨rfl, hg1⟩
      have b0 := (hg1).k (p := ⟨w.heap.size, 0, none⟩) (v := .int .i64 v.path) (by go_simp)
      have b1 := (hg1).k (p := ⟨w.heap.size, 1, none⟩) (v := .int .i64 v.start) (by go_simp)
      have b2 := (hg1).k (p := ⟨w.heap.size, 2, none⟩) (v := .bool v.back) (by go_simp)
      go_wp2_with fail
      refine (visitForm_any _ _ l v _ ((hl.pure (gr_alloc (World.grownBy.refl _ _) _)).pure hg1) hi1 hi2).mono ?_
      rintro e w2 ⟨rfl, hg2⟩
      rw [HV.out]
      go_wp2_with fail
      go_ret
      exact ⟨rfl, (by repeat (first | exact World.grownBy.refl _ _ | assumption | refine gr_alloc ?_ _ | (apply gr_tail; assumption) | refine gr_drewN ?_ _ | refine gr_drew ?_))⟩
    · have HV : Hid (1 = oneF l v) := by rw [Hid, ← HO.out]; exact (visitF_out hin).symm
      have hin2 : v.path < 0 ∨ l.length ≤ v.path := by omega
      clear hin
      go_enter Try.func45, Try.ntmps45
      go_wp2_with fail
      refine (checkPaths_any _ _ l _ (hl.pure (gr_alloc (World.grownBy.refl _ _) _))).mono ?_
      rintro e w1 ⟨rfl, hg1⟩
      have b0 := (hg1).k (p := ⟨w.heap.size, 0, none⟩) (v := .int .i64 v.path) (by go_simp)
      go_wp2_with fail
      all_goals first
        | (go_ret; exact ⟨ret_int HV.out, (by repeat (first | exact World.grownBy.refl _ _ | assumption | refine gr_alloc ?_ _ | (apply gr_tail; assumption) | refine gr_drewN ?_ _ | refine gr_drew ?_))⟩)
        | (exfalso; omega)
  · have hb : (pathsF l != 0) = true := by simp [hz]
    have HO : Hid (pathsF l = oneF l v) := by rw [Hid]; unfold oneF; rw [orS_ne hz]
    clear hz
    go_enter Try.func45, Try.ntmps45
    go_wp2_with fail
    refine (checkPaths_any _ _ l _ (hl.pure (gr_alloc (World.grownBy.refl _ _) _))).mono ?_
    rintro e w1 ⟨rfl, hg1⟩
    go_wp2_with fail
    go_ret
    exact ⟨ret_int HO.out, (by repeat (first | exact World.grownBy.refl _ _ | assumption | refine gr_alloc ?_ _ | (apply gr_tail; assumption) | refine gr_drewN ?_ _ | refine gr_drew ?_))⟩

end Go.Proofs.Ytcaaephphefncaa

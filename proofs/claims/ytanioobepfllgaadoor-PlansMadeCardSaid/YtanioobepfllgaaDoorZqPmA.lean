/- Contracts of functions that this seat's laws reach, each: what one call returns and what it leaves in memory; no condition beyond each theorem's own hypotheses. -/
import Derived.Test.YtanioobepfllgaaDoorZqEarRefD
import Derived.Test.YtanioobepfllgaaDoorZqLateL
set_option linter.unusedVariables false
set_option linter.unusedSimpArgs false
namespace Go.Proofs.YtanioobepfllgaaDoor
open Go Go.RowKit Go.Bl

def ferr (p : List Prn) (j : List Jb) (ch : Int) : Int := if farmF p j = 0 then spanF ch 0 100000 else farmF p j

theorem ferr_zero {p : List Prn} {j : List Jb} {ch : Int} (h : ferr p j ch = 0) : farmF p j = 0 ∧ spanF ch 0 100000 = 0 := by
  unfold ferr at h
  by_cases h0 : farmF p j = 0
  · rw [if_pos h0] at h; exact ⟨h0, h⟩
  · rw [if_neg h0] at h; exact absurd h h0

def EarF (p : List Prn) (j : List Jb) (ch : Int) (R : List (List Int)) (V : Int) : Prop := (ferr p j ch = 0 → BestP p j ch R ∧ V = lstP p j ch R) ∧ (ferr p j ch ≠ 0 → R = [] ∧ V = 0)

def GreF (p : List Prn) (j : List Jb) (ch : Int) (R : List (List Int)) (V : Int) : Prop := (ferr p j ch = 0 → R = greP p j ch j.length ∧ V = lstP p j ch R) ∧ (ferr p j ch ≠ 0 → R = [] ∧ V = 0)

def LatF (x : Prn) (j : List Jb) (ch : Int) (L : List Int) (V : Int) : Prop := (ferr [x] j ch = 0 → L = (leastL (latF j ch x.mat) j.length).1 ∧ V = (leastL (latF j ch x.mat) j.length).2) ∧ (ferr [x] j ch ≠ 0 → L = [] ∧ V = 0)

theorem earliestAll_any (P : Option Addr) (cp : Nat) (p : List Prn) (J : Option Addr) (cj : Nat) (j : List Jb) (ch : Int) (w : World) (hP : Sl w 0 P p) (hJ : Sl w 0 J j) (hj7 : j.length ≤ 7) (hp4 : p.length ≤ 4) :
    Calls Tryd.prog 11 #[.slice P p.length cp, .slice J j.length cj, .int .i64 ch] w fun e w' => ∃ B d R V, e = .returned (.tuple #[.slice B R.length d, .int .i64 V, .int .i64 (ferr p j ch)]) ∧ EarF p j ch R V ∧ Sl w' 0 B R ∧ w.grownBy w' none := by
  by_cases h : ferr p j ch = 0
  · obtain ⟨hF, hc⟩ := ferr_zero h
    rw [h]
    refine (earliest_any P cp p J cj j ch w hP hJ hF hc hj7 hp4).mono ?_
    rintro e w' ⟨B, d, rB, R, rfl, h1, h2, h3, h4⟩
    exact ⟨B, d, R, _, rfl, ⟨fun _ => ⟨h1, rfl⟩, fun hn => absurd h hn⟩, h3.sl.mono (Nat.zero_le _), h4⟩
  · refine (earliestBad_any P cp p J cj j ch w hP hJ h).mono ?_
    rintro e w' ⟨rfl, h4⟩
    exact ⟨none, 0, [], 0, rfl, ⟨fun hz => absurd hz h, fun _ => ⟨rfl, rfl⟩⟩, Sl.nil, h4⟩

theorem greedyAll_any (P : Option Addr) (cp : Nat) (p : List Prn) (J : Option Addr) (cj : Nat) (j : List Jb) (ch : Int) (w : World) (hP : Sl w 0 P p) (hJ : Sl w 0 J j) :
    Calls Tryd.prog 12 #[.slice P p.length cp, .slice J j.length cj, .int .i64 ch] w fun e w' => ∃ B d R V, e = .returned (.tuple #[.slice B R.length d, .int .i64 V, .int .i64 (ferr p j ch)]) ∧ GreF p j ch R V ∧ Sl w' 0 B R ∧ w.grownBy w' none := by
  by_cases h : ferr p j ch = 0
  · obtain ⟨hF, hc⟩ := ferr_zero h
    rw [h]
    refine (greedy_any P cp p J cj j ch w hP hJ hF hc).mono ?_
    rintro e w' ⟨B, d, rB, R, rfl, h1, h2, h3, h4⟩
    exact ⟨B, d, R, _, rfl, ⟨fun _ => ⟨h1, rfl⟩, fun hn => absurd h hn⟩, h3.sl.mono (Nat.zero_le _), h4⟩
  · refine (greedyBad_any P cp p J cj j ch w hP hJ h).mono ?_
    rintro e w' ⟨rfl, h4⟩
    exact ⟨none, 0, [], 0, rfl, ⟨fun hz => absurd hz h, fun _ => ⟨rfl, rfl⟩⟩, Sl.nil, h4⟩

set_option maxHeartbeats 2000000 in
set_option maxRecDepth 100000 in
theorem leastBad_any (key mat : ByteArray) (J : Option Addr) (cj : Nat) (j : List Jb) (ch : Int) (w : World) (hJ : Sl w 0 J j) (h : ferr [⟨key, mat⟩] j ch ≠ 0) :
    Calls Tryd.prog 18 #[.agg #[.string key, .string mat], .slice J j.length cj, .int .i64 ch] w fun e w' => e = .returned (.tuple #[.slice none 0 0, .int .i64 0, .int .i64 (ferr [⟨key, mat⟩] j ch)]) ∧ w.grownBy w' none := by
  have hcase : (farmF [⟨key, mat⟩] j = 0 ∧ outB ch 0 100000 = true ∧ ferr [⟨key, mat⟩] j ch = 1) ∨ (farmF [⟨key, mat⟩] j ≠ 0 ∧ ferr [⟨key, mat⟩] j ch = farmF [⟨key, mat⟩] j) := by
    unfold ferr at h ⊢
    by_cases h0 : farmF [⟨key, mat⟩] j = 0
    · rw [if_pos h0] at h ⊢
      left
      rw [spanF_outB] at h ⊢
      rcases hq : outB ch 0 100000 with _ | _
      · rw [hq] at h; simp at h
      · exact ⟨h0, rfl, by simp⟩
    · rw [if_neg h0] at h ⊢
      exact .inr ⟨h0, rfl⟩
  generalize ferr [⟨key, mat⟩] j ch = FE at *
  clear h
  go_enter Tryd.func18, Tryd.ntmps18
  go_upto_region 1 with fail
  obtain ⟨w3, hw3⟩ : ∃ x, x = (w).alloc (.cells [.string key, .string mat].toArray 47) := ⟨_, rfl⟩
  have hg3 : (w).grownBy w3 none := by rw [hw3]; exact gr_alloc (World.grownBy.refl _ _) _
  have hb3 : Box w3 (w).heap.size 47 [.string key, .string mat] := by rw [hw3]; exact Box.new _ _ _
  have hz3 : w3.heap.size = (w).heap.size + 1 := by rw [hw3]; simp
  rw [← hw3]
  clear hw3
  obtain ⟨x3, hx3⟩ : ∃ x, x = (w).heap.size := ⟨_, rfl⟩
  rw [← hx3] at hb3 hz3 ⊢
  have hxl3 : (w).heap.size ≤ x3 := by omega
  have hy3 : x3 < w3.heap.size := by omega
  clear hx3
  rw [← hz3]
  clear hz3
  obtain ⟨w4, hw4⟩ : ∃ x, x = (w3).alloc (.cells [.slice J j.length cj].toArray 28) := ⟨_, rfl⟩
  have hg4 : (w3).grownBy w4 none := by rw [hw4]; exact gr_alloc (World.grownBy.refl _ _) _
  have hb4 : Box w4 (w3).heap.size 28 [.slice J j.length cj] := by rw [hw4]; exact Box.new _ _ _
  have hz4 : w4.heap.size = (w3).heap.size + 1 := by rw [hw4]; simp
  rw [← hw4]
  clear hw4
  obtain ⟨x4, hx4⟩ : ∃ x, x = (w3).heap.size := ⟨_, rfl⟩
  rw [← hx4] at hb4 hz4 ⊢
  have hxl4 : (w3).heap.size ≤ x4 := by omega
  have hy4 : x4 < w4.heap.size := by omega
  clear hx4
  rw [← hz4]
  clear hz4
  obtain ⟨w5, hw5⟩ : ∃ x, x = (w4).alloc (.cells [.int .i64 ch].toArray 3) := ⟨_, rfl⟩
  have hg5 : (w4).grownBy w5 none := by rw [hw5]; exact gr_alloc (World.grownBy.refl _ _) _
  have hb5 : Box w5 (w4).heap.size 3 [.int .i64 ch] := by rw [hw5]; exact Box.new _ _ _
  have hz5 : w5.heap.size = (w4).heap.size + 1 := by rw [hw5]; simp
  rw [← hw5]
  clear hw5
  obtain ⟨x5, hx5⟩ : ∃ x, x = (w4).heap.size := ⟨_, rfl⟩
  rw [← hx5] at hb5 hz5 ⊢
  have hxl5 : (w4).heap.size ≤ x5 := by omega
  have hy5 : x5 < w5.heap.size := by omega
  clear hx5
  clear hz5
  have h35 := hg4.t hg5
  have h15 := hg3.t h35
  have hP := hb3.pure h35
  have hJb := hb4.pure hg5
  obtain ⟨p0, -⟩ := hP.c 0 rfl
  obtain ⟨p1, -⟩ := hP.c 1 rfl
  obtain ⟨j0, -⟩ := (hJb.pure (gr_alloc (World.grownBy.refl w5 none) (.cells #[.string key, .string mat] 47))).c 0 rfl
  have hs1 : Sl (w5.alloc (.cells #[.string key, .string mat] 47)) 0 (some ⟨w5.heap.size, 0, none⟩) [(⟨key, mat⟩ : Prn)] := sl_oneAt w5 0 [.string key, .string mat] _ _ _ rfl (Nat.zero_le _) rfl
  have hga := gr_alloc (World.grownBy.refl w5 none) (.cells #[.string key, .string mat] 47)
  have hf := hide (fault_any _ 1 [⟨key, mat⟩] J cj j _ hs1 (hJ.pure (h15.t hga)))
  clear hs1
  have hc5 := (hb5.pure hga)
  obtain ⟨w6, hw6⟩ : ∃ x, x = w5.alloc (.cells #[.string key, .string mat] 47) := ⟨_, rfl⟩
  rw [← hw6] at hf hga hc5
  replace hw6 := hide hw6
  rcases hcase with ⟨h0, hout, rfl⟩ | ⟨h0, hE⟩
  · rw [h0] at hf
    go_wp2_with fail
    rw [← hw6.out]
    clear hw6 p0 p1 j0
    refine hf.out.mono ?_
    rintro e w7 ⟨rfl, hg7⟩
    obtain ⟨c0, -⟩ := (hc5.pure hg7).c 0 rfl
    have h17 := h15.t (hga.t hg7)
    clear hf hga
    go_wp2_with (go_at_call 29; refine (isChange_any _ _).mono ?_; rintro _ _ ⟨rfl, rfl⟩; rw [hout])
    exact bodyPost_ret (v := .tuple #[.slice none 0 0, .int .i64 0, .int .i64 1]) (by simp [results, Tryd.results18, go_sem]) rfl ⟨rfl, h17⟩
  · rw [← hE] at hf h0
    clear hE
    have hb : (FE != 0) = true := by simp [h0]
    clear h0
    go_wp2_with fail
    rw [← hw6.out]
    clear hw6 p0 p1 j0
    refine hf.out.mono ?_
    rintro e w7 ⟨rfl, hg7⟩
    have h17 := h15.t (hga.t hg7)
    clear hf hga
    go_wp2_with fail
    exact bodyPost_ret (v := .tuple #[.slice none 0 0, .int .i64 0, .int .i64 FE]) (by simp [results, Tryd.results18, go_sem]) rfl ⟨rfl, h17⟩

theorem leastAll_any (x : Prn) (J : Option Addr) (cj : Nat) (j : List Jb) (ch : Int) (w : World) (hJ : Sl w 0 J j) (hj7 : j.length ≤ 7) :
    Calls Tryd.prog 18 #[.agg #[.string x.key, .string x.mat], .slice J j.length cj, .int .i64 ch] w fun e w' => ∃ B d L V, e = .returned (.tuple #[.slice B L.length d, .int .i64 V, .int .i64 (ferr [x] j ch)]) ∧ LatF x j ch L V ∧ Sl w' 0 B L ∧ w.grownBy w' none := by
  by_cases h : ferr [x] j ch = 0
  · obtain ⟨hF, hc⟩ := ferr_zero h
    rw [h]
    refine (leastLate_any x.key x.mat J cj j ch w hJ hF hc hj7).mono ?_
    rintro e w' ⟨B, d, rfl, h2, h3, h4⟩
    exact ⟨B, d, _, _, rfl, ⟨fun _ => ⟨rfl, rfl⟩, fun hn => absurd h hn⟩, h3, h4⟩
  · refine (leastBad_any x.key x.mat J cj j ch w hJ h).mono ?_
    rintro e w' ⟨rfl, h4⟩
    exact ⟨none, 0, [], 0, rfl, ⟨fun hz => absurd hz h, fun _ => ⟨rfl, rfl⟩⟩, Sl.nil, h4⟩

set_option maxHeartbeats 2000000 in
set_option maxRecDepth 100000 in
/-- rows that are the same, compared row by row -/
theorem sameRowsD_any (A : Option Addr) (c : Nat) (l : List (List Int)) (B : Option Addr) (d : Nat) (w : World) (hl : Sl w 0 A l) (hm : Sl w 0 B l) :
    Calls Tryd.prog 15 #[.slice A l.length c, .slice B l.length d, .func (.func 16) #[] #[]] w fun e w' => e = .returned (.bool true) ∧ w.grownBy w' none := by
  have hm1 := hl.1
  unfold maxLen at hm1
  go_enter Tryd.func15, Tryd.ntmps15
  go_wp2_with fail
  go_loopw [17] (fun i wr => ∃ k : Nat, k ≤ l.length ∧ i = .int .i64 k ∧ w.grownBy wr none) (fun i _ => l.length - (intOf i).toNat)
  case atStart => exact ⟨0, Nat.zero_le _, rfl, World.grownBy.refl _ _⟩
  case round =>
    obtain ⟨k, hk, rfl, hg⟩ := hrel
    by_cases hlt : k < l.length
    · obtain ⟨g, o, Bk, dk, rfl, hb1, c0, hsl⟩ := sl_inner hl hlt
      obtain ⟨g', o', Bm, dm, rfl, hb1', c1, hsm⟩ := sl_inner hm hlt
      replace c0 := hg.k c0
      replace c1 := hg.k c1
      have hC := hide (equalInts_any Bk Bm dk dm l[k] l[k] wr (hsl.pure hg) (hsm.pure hg))
      rw [eqB_refl] at hC
      generalize l[k] = a at *
      have hi0 : (0 : Int) ≤ (k : Int) ∧ (k : Int) < l.length := by omega
      go_wp2_with fail
      go_at_call 16
      refine hC.out.mono ?_
      rintro e wq ⟨rfl, hgq⟩
      go_wp2_with fail
      (go_roundw; (case rel => exact ⟨k + 1, by omega, by go_num, hg.t hgq⟩); (case measure => simp [intOf]; omega))
    · go_wp2_with fail
      go_ret
      exact ⟨rfl, hg⟩

end Go.Proofs.YtanioobepfllgaaDoor

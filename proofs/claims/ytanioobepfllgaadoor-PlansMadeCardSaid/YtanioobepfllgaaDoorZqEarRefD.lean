/- Contracts of functions that this seat's laws reach, each: what one call returns and what it leaves in memory; no condition beyond each theorem's own hypotheses. -/
import Derived.Test.YtanioobepfllgaaDoorZqEarRefA
import Derived.Test.YtanioobepfllgaaDoorZqBitRun
import Derived.Test.YtanioobepfllgaaDoorZqLstRef
import Derived.Test.YtanioobepfllgaaDoorZqPlnB
set_option linter.unusedVariables false
set_option linter.unusedSimpArgs false
namespace Go.Proofs.YtanioobepfllgaaDoor
open Go Go.RowKit Go.Bl

def StG (p : List Prn) (j : List Jb) (ch : Int) (bo : Option (List (List Int))) (R : List (List Int)) (l s : Int) : Prop :=
  match bo with
  | none => R = [] ∧ l = -1 ∧ s = 0
  | some X => R = X ∧ l = lstP p j ch X ∧ s = sumP p j ch X

def PG (gB gL gS : Nat) (x : Nat) : Prop := x = gB ∨ x = gL ∨ x = gS
/-- the boxes of the search, and what it has found -/
structure InvG (w0 : World) (lo : Nat) (C : List BoxV) (gB gL gS : Nat) (p : List Prn) (j : List Jb) (ch : Int) (wr : World) (bo : Option (List (List Int))) : Prop where
  k : ∀ b ∈ C, Box wr b.g b.t b.v
  bb : ∃ B d R l s, Box wr gB 36 [.slice B R.length d] ∧ Box wr gL 3 [.int .i64 l] ∧ Box wr gS 3 [.int .i64 s] ∧ Sl wr lo B R ∧ R.length ≤ d ∧ StG p j ch bo R l s
  gr : w0.grownBy wr none
  sz : lo ≤ wr.heap.size
  ok : (∀ b ∈ C, ¬ PG gB gL gS b.g) ∧ (gB ≠ gL ∧ gB ≠ gS ∧ gL ≠ gS) ∧ (∀ x, PG gB gL gS x → x < lo ∧ w0.heap.size ≤ x)
section
variable {w0 : World} {lo : Nat} {C : List BoxV} {gB gL gS : Nat} {p : List Prn} {j : List Jb} {ch : Int} {wr w' : World} {bo : Option (List (List Int))}

theorem InvG.pure (h : InvG w0 lo C gB gL gS p j ch wr bo) (hg : wr.grownBy w' none) : InvG w0 lo C gB gL gS p j ch w' bo := by
  obtain ⟨B, d, R, l, s, h1, h2, h3, h4, h5, h6⟩ := h.bb
  exact ⟨fun b hb => (h.k b hb).pure hg, ⟨B, d, R, l, s, h1.pure hg, h2.pure hg, h3.pure hg, h4.pure hg, h5, h6⟩, h.gr.t hg, Nat.le_trans h.sz hg.size, h.ok⟩

theorem InvG.best (h : InvG w0 lo C gB gL gS p j ch wr bo) {A : Option Addr} {d : Nat} {o : List (List Int)} (hs : Sl wr lo A o) (hd : o.length ≤ d) {l s : Int} (hl : l = lstP p j ch o) (hss : s = sumP p j ch o) :
    InvG w0 lo C gB gL gS p j ch (((wr.setCell ⟨gB, 0, none⟩ (.slice A o.length d)).setCell ⟨gL, 0, none⟩ (.int .i64 l)).setCell ⟨gS, 0, none⟩ (.int .i64 s)) (some o) ∧
      GrS (PG gB gL gS) wr (((wr.setCell ⟨gB, 0, none⟩ (.slice A o.length d)).setCell ⟨gL, 0, none⟩ (.int .i64 l)).setCell ⟨gS, 0, none⟩ (.int .i64 s)) := by
  obtain ⟨B, d', R, l', s', h1, h2, h3, h4, h5, h6⟩ := h.bb
  obtain ⟨k1, ⟨k2, k3, k4⟩, k5⟩ := h.ok
  have g1 := gr_set (World.grownBy.refl wr (some gB)) (p := ⟨gB, 0, none⟩) (.inl rfl) (.slice A o.length d)
  have g2 := gr_set (World.grownBy.refl (wr.setCell ⟨gB, 0, none⟩ (.slice A o.length d)) (some gL)) (p := ⟨gL, 0, none⟩) (.inl rfl) (.int .i64 l)
  have g3 := gr_set (World.grownBy.refl ((wr.setCell ⟨gB, 0, none⟩ (.slice A o.length d)).setCell ⟨gL, 0, none⟩ (.int .i64 l)) (some gS)) (p := ⟨gS, 0, none⟩) (.inl rfl) (.int .i64 s)
  have hG : GrS (PG gB gL gS) wr (((wr.setCell ⟨gB, 0, none⟩ (.slice A o.length d)).setCell ⟨gL, 0, none⟩ (.int .i64 l)).setCell ⟨gS, 0, none⟩ (.int .i64 s)) :=
    ((GrS.of (p := PG gB gL gS) g1 (fun x e => .inl (by injection e with e; exact e.symm))).step g2 (fun x e => .inl (.inr (.inl (by injection e with e; exact e.symm))))).step g3 (fun x e => .inl (.inr (.inr (by injection e with e; exact e.symm))))
  refine ⟨⟨fun b hb => hG.box (h.k b hb) (k1 b hb), ⟨A, d, o, l, s, ?_, ?_, ?_, hG.sl hs (fun x e => (k5 x e).1), hd, rfl, hl, hss⟩, hG.new h.gr (fun x e => (k5 x e).2), Nat.le_trans h.sz hG.size, h.ok⟩, hG⟩
  · exact ((h1.set_ 0 (.slice A o.length d) (by simp)).gr g2 (fun e => by injection e with e; exact k2 e.symm)).gr g3 (fun e => by injection e with e; exact k3 e.symm)
  · exact ((h2.gr g1 (fun e => by injection e with e; exact k2 e)).set_ 0 (.int .i64 l) (by simp)).gr g3 (fun e => by injection e with e; exact k4 e.symm)
  · exact ((h3.gr g1 (fun e => by injection e with e; exact k3 e)).gr g2 (fun e => by injection e with e; exact k4 e)).set_ 0 (.int .i64 s) (by simp)
end
/-- what comes of a job that is put behind, in the order of the loops -/
def SG (m n : Nat) (P : List (List Int)) (i k : Nat) (X : List (List Int)) : Prop := ∃ i' k' : Nat, (i' < i ∨ (i' = i ∧ k' < k)) ∧ i' < m ∧ k' < n ∧ (P.drop (i' + 1)).any fullB = false ∧ memI P.flatten (k' : Int) = false ∧ Ext m n (P.set i' (P.getD i' [] ++ [(k' : Int)])) X

theorem SG_zero {m n : Nat} {P : List (List Int)} (X : List (List Int)) : ¬ SG m n P 0 0 X := by
  rintro ⟨i, k, h | h, -⟩ <;> omega

theorem SG_next {m n i : Nat} {P : List (List Int)} (X : List (List Int)) : SG m n P (i + 1) 0 X ↔ SG m n P i n X := by
  constructor
  · rintro ⟨i', k', h, h1, h2, h3⟩
    exact ⟨i', k', by omega, h1, h2, h3⟩
  · rintro ⟨i', k', h, h1, h2, h3⟩
    exact ⟨i', k', by omega, h1, h2, h3⟩

theorem SG_skip {m n i k : Nat} {P : List (List Int)} (h : (!memI P.flatten (k : Int) && !(P.drop (i + 1)).any fullB) = false) (X : List (List Int)) : SG m n P i (k + 1) X ↔ SG m n P i k X := by
  constructor
  · rintro ⟨i', k', h0, h1, h2, h3, h4, h5⟩
    by_cases e : i' = i ∧ k' = k
    · obtain ⟨rfl, rfl⟩ := e
      rw [h3, h4] at h
      cases h
    · exact ⟨i', k', by omega, h1, h2, h3, h4, h5⟩
  · rintro ⟨i', k', h0, h1⟩
    exact ⟨i', k', by omega, h1⟩

theorem SG_more {m n i k : Nat} {P : List (List Int)} (hi : i < m) (hk : k < n) (h : (!memI P.flatten (k : Int) && !(P.drop (i + 1)).any fullB) = true) (X : List (List Int)) : SG m n P i (k + 1) X ↔ (SG m n P i k X ∨ Ext m n (P.set i (P.getD i [] ++ [(k : Int)])) X) := by
  simp only [Bool.and_eq_true, Bool.not_eq_true'] at h
  constructor
  · rintro ⟨i', k', h0, h1⟩
    by_cases e : i' = i ∧ k' = k
    · obtain ⟨rfl, rfl⟩ := e
      exact .inr h1.2.2.2.2
    · exact .inl ⟨i', k', by omega, h1⟩
  · rintro (⟨i', k', h0, h1⟩ | h1)
    · exact ⟨i', k', by omega, h1⟩
    · exact ⟨i, k, by omega, hi, hk, h.2, h.1, h1⟩

theorem full_none {L : List (List Int)} : L.any fullB = false ↔ ∀ x ∈ L, x = [] := by
  rw [List.any_eq_false]
  constructor
  · intro h x hx
    have := h x hx
    unfold fullB at this
    simp at this
    exact this
  · intro h x hx
    rw [h x hx]
    decide

theorem SG_all {m n : Nat} {P : List (List Int)} (hn : P.flatten.length < n) (hlen : P.length = m) (hisp : IsP n P.flatten) (X : List (List Int)) : SG m n P m 0 X ↔ Ext m n P X := by
  rw [ext_node hn hlen hisp]
  constructor
  · rintro ⟨i, k, h0, h1, h2, h3, h4, h5⟩
    exact ⟨i, k, h1, h2, full_none.1 h3, h4, h5⟩
  · rintro ⟨i, k, h1, h2, h3, h4, h5⟩
    exact ⟨i, k, by omega, h1, h2, full_none.2 h3, h4, h5⟩

theorem bet_or3 {last sum l s : Int} {P R : List (List Int)} : decide (orL [Lib.compareInt last l, Lib.compareInt sum s, cmpLL P R] < 0) = betS last sum P (some (R, l, s)) := by
  unfold betS Lib.compareInt orL orL orL orL
  simp only
  rcases Int.lt_trichotomy last l with h | h | h
  · simp [h, show ¬ last = l by omega]
  · subst h
    simp only [Int.lt_irrefl, if_false, if_true, gt_iff_lt]
    rcases Int.lt_trichotomy sum s with h | h | h
    · simp [h, show ¬ sum = s by omega]
    · subst h; simp
      split <;> simp_all
    · simp [h, show ¬ sum < s by omega, show ¬ sum = s by omega]
  · simp [h, show ¬ last = l by omega, show ¬ last < l by omega]

def LeafG (p : List Prn) (j : List Jb) (ch : Int) (P : List (List Int)) (bo : Option (List (List Int))) : Option (List (List Int)) := if betS (lstP p j ch P) (sumP p j ch P) P (bo.map fun R => (R, lstP p j ch R, sumP p j ch R)) then some P else bo

set_option maxHeartbeats 8000000 in
set_option maxRecDepth 100000 in
theorem earLeaf_any {w0 : World} {lo : Nat} {C : List BoxV} {gB gL gS : Nat} (p : List Prn) (j : List Jb) (ch : Int) (Pp : Option Addr) (cp : Nat) (J : Option Addr) (cj gJ gP gC gT : Nat) (tJ tP tC : TypeId) (hj4 : j.length ≤ 4) (hF : farmF p j = 0) (hc : spanF ch 0 100000 = 0) (hJ : Sl w0 0 J j) (hP : Sl w0 0 Pp p)
    (mJ : (⟨gJ, tJ, [.slice J j.length cj]⟩ : BoxV) ∈ C) (mP : (⟨gP, tP, [.slice Pp p.length cp]⟩ : BoxV) ∈ C) (mC : (⟨gC, tC, [.int .i64 ch]⟩ : BoxV) ∈ C)
    (P : List (List Int)) (bo : Option (List (List Int))) (w : World) (A : Option Addr) (c : Nat) (hPl : IsPl p.length j.length P) (hs : Sl w lo A P) (hcap : P.length ≤ c) (hI : InvG w0 lo C gB gL gS p j ch w bo) :
    Calls Tryd.prog 32 #[.slice A P.length c, .int .i64 ((bt P.flatten : Nat) : Int), .pointer (some ⟨gJ, 0, none⟩), .pointer (some ⟨gP, 0, none⟩), .pointer (some ⟨gC, 0, none⟩), .pointer (some ⟨gL, 0, none⟩), .pointer (some ⟨gS, 0, none⟩), .pointer (some ⟨gB, 0, none⟩), .pointer (some ⟨gT, 0, none⟩)] w fun e w' => e = .returned (.tuple #[]) ∧ InvG w0 lo C gB gL gS p j ch w' (LeafG p j ch P bo) ∧ GrS (PG gB gL gS) w w' := by
  have hpk := hide (pl_pok hF hc hPl)
  have hbt := (bt_all hj4 hPl.isp).2 hPl.all
  obtain ⟨u, hu⟩ : ∃ u, u = bt P.flatten := ⟨_, rfl⟩
  rw [← hu] at hbt ⊢
  clear hu
  have hshl := fun W => run_shl1 (P := Tryd.prog) W 3 (k := j.length) (by omega)
  obtain ⟨N2, hN2⟩ : ∃ N : Int, N = ((2 ^ j.length : Nat) : Int) := ⟨_, rfl⟩
  rw [← hN2] at hshl
  have hpos : 1 ≤ 2 ^ j.length := Nat.one_le_two_pow
  have hNb : 1 ≤ N2 ∧ N2 ≤ 16 := by
    rw [hN2]
    have : 2 ^ j.length ≤ 2 ^ 4 := Nat.pow_le_pow_right (by decide) hj4
    omega
  have hEq : ((u : Int) == N2 - 1) = true := by
    rw [hN2, hbt, beq_iff_eq]
    clear hN2 hbt hshl hNb
    generalize 2 ^ j.length = M at *
    omega
  have hw2 : wrap64 ((2 : Int) ^ j.length) = N2 := by
    rw [i64_in, hN2]
    · push_cast; rfl
    · have e : ((2 ^ j.length : Nat) : Int) = (2 : Int) ^ j.length := by push_cast; rfl
      rw [← e, ← hN2]
      omega
  clear hbt hpos hN2 hshl
  have hEb := hide fun W (h : w.grownBy W none) => endsBy_any Pp cp p J cj j A c P ch W (hP.pure (hI.gr.t h)) (hJ.pure (hI.gr.t h)) ((hs.mono (Nat.zero_le _)).pure h) hpk.out
  rw [lst_end (j := j) (ch := ch) hPl.len] at hEb
  have hEbd := endsF_bd hpk.out
  have hEl := endsF_len p j P ch
  have hEs := sum_ends (ch := ch) hPl
  have hTb : ∀ k, k ≤ (endsF p j P ch).length → 0 ≤ ((endsF p j P ch).take k).sum ∧ ((endsF p j P ch).take k).sum ≤ 1000000000000 := by
    intro k hk
    have : ∀ L : List Int, (∀ e ∈ L, 0 ≤ e ∧ e ≤ 100000000) → 0 ≤ L.sum ∧ L.sum ≤ 100000000 * L.length := by
      intro L
      induction L with
      | nil => intro _; simp
      | cons x L ih =>
        intro h
        have h1 := h x (by simp)
        have h2 := ih (fun e he => h e (by simp [he]))
        rw [List.sum_cons, List.length_cons]
        push_cast
        omega
    have h1 := this ((endsF p j P ch).take k) (fun e he => hEbd e (List.mem_of_mem_take he))
    have h2 : ((endsF p j P ch).take k).length ≤ 4 := by rw [List.length_take]; omega
    omega
  have hTo := hide fun W A3 c3 (h : Sl W 0 A3 (endsF p j P ch)) => total_any A3 c3 (endsF p j P ch) W h hTb
  rw [hEs, hEl] at hTo
  generalize endsF p j P ch = EL at *
  clear hEbd hEs hTb
  obtain ⟨B, d, R, l, s, h1, h2, h3, h4, h5, h6⟩ := hI.bb
  have hIh := hide hI
  obtain ⟨j0, -⟩ := (hI.k _ mJ).c 0 rfl
  obtain ⟨p0, -⟩ := (hI.k _ mP).c 0 rfl
  obtain ⟨c0, -⟩ := (hI.k _ mC).c 0 rfl
  have hpl : Hid (P.length = p.length) := hPl.len
  clear hI hpk
  go_enter Tryd.func32, Tryd.ntmps32
  go_wp2_with fail
  refine (hEb.out w (World.grownBy.refl _ _)).mono ?_
  rintro e w1 ⟨gE, rfl, hOE, hg1⟩
  have hI1 := hIh.out.pure hg1
  have hs1 := hs.pure hg1
  have hT1 := hide fun W (h : w1.grownBy W none) => hTo.out W (some ⟨gE, 0, none⟩) j.length ((hOE.sl.mono (Nat.zero_le _)).pure h)
  replace h1 := h1.pure hg1
  replace h2 := h2.pure hg1
  replace h3 := h3.pure hg1
  replace h4 := h4.pure hg1
  have hG1 : GrS (PG gB gL gS) w w1 := GrS.of hg1 (fun x e => by cases e)
  clear hEb hTo hOE j0 p0 c0 hIh hw2 hEq hs hg1
  cases bo with
  | none =>
    obtain ⟨rfl, rfl, rfl⟩ := h6
    obtain ⟨l0, -⟩ := h2.c 0 rfl
    go_upto_region 2 with fail
    refine wp_region_tree (fun wx => w1.grownBy wx none) [1, 2, 2, 2, 1, 0, 2, 0, 1, 0, 2, 1, 0, 0, 0, 2, 2] (.bl 0 (.bl 1 (.bl 2 (.bl 3 (.bl 4 (.bl 6 (.bl 8 (.bl 10 (.bl 11 (.ef 5 (.ef 7 (.ef 9 (.ef 12 (.ef 13 (.ef 14 (.bl 15 (.bl 16 .done))))))))))))))))) (by kernel_rfl) (by kernel_rfl) (gr_drew (World.grownBy.refl _ _)) ?_
    obtain ⟨u0, hu0⟩ : ∃ x, x = (w1).drew := ⟨_, rfl⟩
    rw [← hu0]
    have hgu0 : (w1).grownBy u0 none := by rw [hu0]; exact gr_drew (World.grownBy.refl _ _)
    clear hu0
    refine tree_b rfl rfl rfl rfl _ rfl (by simp) (fun K hK => ?_)
    apply Exists.intro
    refine ⟨fun wq hq K' hK' => ?_, ?_⟩
    · have k0 := hq.k l0
      go_wp2_with fail
      exact hK'
    go_simp
    refine hK _ ?_
    clear hK K
    refine tree_p rfl rfl rfl rfl _ rfl (by simp) (fun K hK => ?_)
    apply Exists.intro
    refine ⟨fun wq K' hK' => ?_, ?_⟩
    · go_wp2_with fail
      exact hK'
    go_simp
    refine hK _ ?_
    clear hK K
    refine tree_p rfl rfl rfl rfl _ rfl (by simp) (fun K hK => ?_)
    apply Exists.intro
    refine ⟨fun wq K' hK' => ?_, ?_⟩
    · go_wp2_with fail
      exact hK'
    go_simp
    refine hK _ ?_
    clear hK K
    refine tree_skip rfl rfl ?_
    try go_simp
    refine tree_skip rfl rfl ?_
    try go_simp
    refine tree_skip rfl rfl ?_
    try go_simp
    refine tree_skip rfl rfl ?_
    try go_simp
    refine tree_skip rfl rfl ?_
    try go_simp
    refine tree_skip rfl rfl ?_
    try go_simp
    refine tree_eskip (fun _ => hgu0) rfl rfl ?_
    try go_simp
    refine tree_eskip (fun _ => hgu0) rfl rfl ?_
    try go_simp
    refine tree_eskip (fun _ => hgu0) rfl rfl ?_
    try go_simp
    refine tree_eskip0 (by kernel_rfl) rfl rfl ?_
    try go_simp
    refine tree_eskip0 (by kernel_rfl) rfl rfl ?_
    try go_simp
    refine tree_eskip0 (by kernel_rfl) rfl rfl ?_
    try go_simp
    refine tree_skip rfl rfl ?_
    try go_simp
    refine tree_p rfl rfl rfl rfl _ rfl (by simp) (fun K hK => ?_)
    apply Exists.intro
    refine ⟨fun wq K' hK' => ?_, ?_⟩
    · go_wp2_with fail
      exact hK'
    go_simp
    refine hK _ ?_
    clear hK K
    refine tree_done ?_
    have hIu := hI1.pure (hgu0)
    have hsu := hs1.pure (hgu0)
    have hBu := hide (hIu.best hsu hcap rfl rfl)
    have hGu := hide ((hG1.pure (hgu0)).trans hBu.out.2)
    replace hBu := hide hBu.out.1
    obtain ⟨q0, fq0⟩ := (h1.pure (hgu0)).c 0 rfl
    obtain ⟨l1, fl1⟩ := ((h2.pure (hgu0)).gr (gr_set (World.grownBy.refl _ (some gB)) (p := ⟨gB, 0, none⟩) (.inl rfl) (.slice A P.length c)) (fun e => by injection e with e; exact hIu.ok.2.1.1 e)).c 0 rfl
    obtain ⟨s2, fs2⟩ := (((h3.pure (hgu0)).gr (gr_set (World.grownBy.refl _ (some gB)) (p := ⟨gB, 0, none⟩) (.inl rfl) (.slice A P.length c)) (fun e => by injection e with e; exact hIu.ok.2.1.2.1 e)).gr (gr_set (World.grownBy.refl _ (some gL)) (p := ⟨gL, 0, none⟩) (.inl rfl) (.int .i64 (lstP p j ch P))) (fun e => by injection e with e; exact hIu.ok.2.1.2.2 e)).c 0 rfl
    clear hIu hsu
    clear h1 h2 h3 h4 hI1 hs1 hG1 l0
    go_wp2_with fail
    refine (hT1.out u0 hgu0).mono ?_
    rintro e wq ⟨rfl, hwq⟩
    rw [hwq]
    clear hwq wq hT1
    go_wp2_with fail
    refine bodyPost_ret (results_none rfl _ _ _) rfl ?_
    exact ⟨rfl, hBu.out, hGu.out⟩
  | some X =>
    obtain ⟨rfl, rfl, rfl⟩ := h6
    obtain ⟨l0, -⟩ := h2.c 0 rfl
    obtain ⟨s0, -⟩ := h3.c 0 rfl
    obtain ⟨r0, -⟩ := h1.c 0 rfl
    have hln : 0 ≤ lstP p j ch R := lastO_nn _
    have hV : Hid (decide (orL [Lib.compareInt (lstP p j ch P) (lstP p j ch R), Lib.compareInt (sumP p j ch P) (sumP p j ch R), cmpLL P R] < 0) = betS (lstP p j ch P) (sumP p j ch P) P (some (R, lstP p j ch R, sumP p j ch R))) := bet_or3
    have hC1 := hide fun W => Tryd.cmp_Compare_int (lstP p j ch P) (lstP p j ch R) W
    have hC2 := hide fun W => Tryd.cmp_Compare_int (sumP p j ch P) (sumP p j ch R) W
    have hCR := hide fun W (h : w1.grownBy W none) => compareRowsR_any A c P B d R W ((hs1.mono (Nat.zero_le _)).pure h) ((h4.mono (Nat.zero_le _)).pure h)
    obtain ⟨V, hVe⟩ : ∃ V, V = betS (lstP p j ch P) (sumP p j ch P) P (some (R, lstP p j ch R, sumP p j ch R)) := ⟨_, rfl⟩
    rw [← hVe] at hV
    replace hVe := hide hVe
    obtain ⟨c1, hc1⟩ : ∃ q, q = Lib.compareInt (lstP p j ch P) (lstP p j ch R) := ⟨_, rfl⟩
    obtain ⟨c2, hc2⟩ : ∃ q, q = Lib.compareInt (sumP p j ch P) (sumP p j ch R) := ⟨_, rfl⟩
    obtain ⟨c3, hc3⟩ : ∃ q, q = cmpLL P R := ⟨_, rfl⟩
    rw [← hc1] at hC1 hV
    rw [← hc2] at hC2 hV
    rw [← hc3] at hCR hV
    clear hc1 hc2 hc3 h5
    obtain ⟨LX, hLX⟩ : ∃ q, q = lstP p j ch R := ⟨_, rfl⟩
    rw [← hLX] at hC1 l0 hln
    obtain ⟨SX, hSX⟩ : ∃ q, q = sumP p j ch R := ⟨_, rfl⟩
    rw [← hSX] at hC2 s0
    replace hLX := hide hLX
    replace hSX := hide hSX
    have hdl : decide (LX < 0) = false := decide_eq_false (by omega)
    go_upto_region 2 with fail
    refine wp_region_tree (fun wx => w1.grownBy wx none) [1, 2, 2, 2, 1, 0, 2, 0, 1, 0, 2, 1, 0, 0, 0, 2, 2] (.bl 0 (.bl 1 (.bl 2 (.bl 3 (.bl 4 (.bl 6 (.bl 8 (.bl 10 (.bl 11 (.ef 5 (.ef 7 (.ef 9 (.ef 12 (.ef 13 (.ef 14 (.bl 15 (.bl 16 .done))))))))))))))))) (by kernel_rfl) (by kernel_rfl) (gr_drew (World.grownBy.refl _ _)) ?_
    obtain ⟨u0, hu0⟩ : ∃ x, x = (w1).drew := ⟨_, rfl⟩
    rw [← hu0]
    have hgu0 : (w1).grownBy u0 none := by rw [hu0]; exact gr_drew (World.grownBy.refl _ _)
    clear hu0
    refine tree_b rfl rfl rfl rfl _ rfl (by simp) (fun K hK => ?_)
    apply Exists.intro
    refine ⟨fun wq hq K' hK' => ?_, ?_⟩
    · have k0 := hq.k l0
      have k1 := hq.k s0
      have k2 := hq.k r0
      go_wp2_with fail
      exact hK'
    go_simp
    refine hK _ ?_
    clear hK K
    refine tree_p rfl rfl rfl rfl _ rfl (by simp) (fun K hK => ?_)
    apply Exists.intro
    refine ⟨fun wq K' hK' => ?_, ?_⟩
    · go_wp2_with fail
      exact hK'
    go_simp
    refine hK _ ?_
    clear hK K
    refine tree_p rfl rfl rfl rfl _ rfl (by simp) (fun K hK => ?_)
    apply Exists.intro
    refine ⟨fun wq K' hK' => ?_, ?_⟩
    · go_wp2_with fail
      exact hK'
    go_simp
    refine hK _ ?_
    clear hK K
    refine tree_p rfl rfl rfl rfl _ rfl (by simp) (fun K hK => ?_)
    apply Exists.intro
    refine ⟨fun wq K' hK' => ?_, ?_⟩
    · go_wp2_with fail
      exact hK'
    go_simp
    refine hK _ ?_
    clear hK K
    refine tree_b rfl rfl rfl rfl _ rfl (by simp) (fun K hK => ?_)
    apply Exists.intro
    refine ⟨fun wq hq K' hK' => ?_, ?_⟩
    · have k0 := hq.k l0
      have k1 := hq.k s0
      have k2 := hq.k r0
      go_wp2_with fail
      exact hK'
    go_simp
    refine hK _ ?_
    clear hK K
    refine tree_p rfl rfl rfl rfl _ rfl (by simp) (fun K hK => ?_)
    apply Exists.intro
    refine ⟨fun wq K' hK' => ?_, ?_⟩
    · go_wp2_with fail
      exact hK'
    go_simp
    refine hK _ ?_
    clear hK K
    refine tree_b rfl rfl rfl rfl _ rfl (by simp) (fun K hK => ?_)
    apply Exists.intro
    refine ⟨fun wq hq K' hK' => ?_, ?_⟩
    · have k0 := hq.k l0
      have k1 := hq.k s0
      have k2 := hq.k r0
      go_wp2_with fail
      exact hK'
    go_simp
    refine hK _ ?_
    clear hK K
    refine tree_p rfl rfl rfl rfl _ rfl (by simp) (fun K hK => ?_)
    apply Exists.intro
    refine ⟨fun wq K' hK' => ?_, ?_⟩
    · go_wp2_with fail
      exact hK'
    go_simp
    refine hK _ ?_
    clear hK K
    refine tree_b rfl rfl rfl rfl _ rfl (by simp) (fun K hK => ?_)
    apply Exists.intro
    refine ⟨fun wq hq K' hK' => ?_, ?_⟩
    · have k0 := hq.k l0
      have k1 := hq.k s0
      have k2 := hq.k r0
      go_wp2_with fail
      exact hK'
    go_simp
    refine hK _ ?_
    clear hK K
    refine tree_e rfl rfl (fun K hK => ?_)
    go_wp2_with fail
    refine (hC1.out u0).mono ?_
    rintro e wq ⟨rfl, hwq⟩
    rw [hwq]
    clear hwq wq
    go_wp2_with fail
    try go_simp
    refine hK _ _ (hgu0) ?_
    clear hK K
    refine tree_e rfl rfl (fun K hK => ?_)
    go_wp2_with fail
    refine (hT1.out u0 hgu0).mono ?_
    rintro e wq ⟨rfl, hwq⟩
    rw [hwq]
    clear hwq wq
    go_wp2_with fail
    try go_simp
    refine hK _ _ (hgu0) ?_
    clear hK K
    refine tree_e rfl rfl (fun K hK => ?_)
    go_wp2_with fail
    refine (hC2.out u0).mono ?_
    rintro e wq ⟨rfl, hwq⟩
    rw [hwq]
    clear hwq wq
    go_wp2_with fail
    try go_simp
    refine hK _ _ (hgu0) ?_
    clear hK K
    refine tree_e0 (by kernel_rfl) rfl rfl (fun K hK => ?_)
    go_wp2_with fail
    refine (hCR.out u0 hgu0).mono ?_
    rintro e wq ⟨rfl, hwq⟩
    rw [hwq]
    clear hwq wq
    go_wp2_with fail
    try go_simp
    refine hK _ _ trivial ?_
    clear hK K
    refine tree_e0 (by kernel_rfl) rfl rfl (fun K hK => ?_)
    go_wp2_with fail
    try go_simp
    refine hK _ _ trivial ?_
    clear hK K
    refine tree_e0 (by kernel_rfl) rfl rfl (fun K hK => ?_)
    go_wp2_with fail
    refine (orI_any (some ⟨u0.heap.size, 0, none⟩) 3 3 [c1, c2, c3] (u0.alloc (.cells #[.int .i64 c1, .int .i64 c2, .int .i64 c3] 3)) (sl_intsAt _ _ _ _ _ rfl (Nat.zero_le _) (by simp [maxLen])) rfl).mono ?_
    rintro e wq ⟨rfl, hwq⟩
    rw [hwq]
    clear hwq wq
    go_wp2_with fail
    try go_simp
    refine hK _ _ trivial ?_
    clear hK K
    refine tree_p rfl rfl rfl rfl _ rfl (by simp) (fun K hK => ?_)
    apply Exists.intro
    refine ⟨fun wq K' hK' => ?_, ?_⟩
    · go_wp2_with fail
      exact hK'
    go_simp
    refine hK _ ?_
    clear hK K
    refine tree_p rfl rfl rfl rfl _ rfl (by simp) (fun K hK => ?_)
    apply Exists.intro
    refine ⟨fun wq K' hK' => ?_, ?_⟩
    · go_wp2_with fail
      exact hK'
    go_simp
    refine hK _ ?_
    clear hK K
    refine tree_done ?_
    obtain ⟨u1, hu1⟩ : ∃ x, x = u0.alloc (.cells #[.int .i64 c1, .int .i64 c2, .int .i64 c3] 3) := ⟨_, rfl⟩
    have hgu1 : w1.grownBy u1 none := by rw [hu1]; exact gr_alloc hgu0 _
    rw [← hu1]
    clear hu1 hgu0
    obtain ⟨v, hv⟩ : ∃ v, v = orL [c1, c2, c3] := ⟨_, rfl⟩
    rw [← hv] at hV ⊢
    clear hv
    cases V with
    | true =>
      have hv0 : v < 0 := by have := hV.out; simpa using this
      have hres : Hid (LeafG p j ch P (some R) = some P) := by
        unfold LeafG; rw [Hid, Option.map_some, ← hVe.out]; rfl
      have hIu := hI1.pure (hgu1)
      have hsu := hs1.pure (hgu1)
      have hBu := hide (hIu.best hsu hcap rfl rfl)
      have hGu := hide ((hG1.pure (hgu1)).trans hBu.out.2)
      replace hBu := hide hBu.out.1
      obtain ⟨q0, fq0⟩ := (h1.pure (hgu1)).c 0 rfl
      obtain ⟨l1, fl1⟩ := ((h2.pure (hgu1)).gr (gr_set (World.grownBy.refl _ (some gB)) (p := ⟨gB, 0, none⟩) (.inl rfl) (.slice A P.length c)) (fun e => by injection e with e; exact hIu.ok.2.1.1 e)).c 0 rfl
      obtain ⟨s2, fs2⟩ := (((h3.pure (hgu1)).gr (gr_set (World.grownBy.refl _ (some gB)) (p := ⟨gB, 0, none⟩) (.inl rfl) (.slice A P.length c)) (fun e => by injection e with e; exact hIu.ok.2.1.2.1 e)).gr (gr_set (World.grownBy.refl _ (some gL)) (p := ⟨gL, 0, none⟩) (.inl rfl) (.int .i64 (lstP p j ch P))) (fun e => by injection e with e; exact hIu.ok.2.1.2.2 e)).c 0 rfl
      clear hIu hsu
      clear h1 h2 h3 h4 hI1 hs1 hG1 l0 s0 r0 hC1 hC2 hCR hV hVe
      go_wp2_with fail
      refine (hT1.out u1 hgu1).mono ?_
      rintro e wq ⟨rfl, hwq⟩
      rw [hwq]
      clear hwq wq hT1
      go_wp2_with fail
      refine bodyPost_ret (results_none rfl _ _ _) rfl ?_
      exact ⟨rfl, by rw [hres.out]; exact hBu.out, hGu.out⟩
    | false =>
      have hv0 : 0 ≤ v := by have := hV.out; simpa using this
      have hres : Hid (LeafG p j ch P (some R) = some R) := by
        unfold LeafG; rw [Hid, Option.map_some, ← hVe.out]; rfl
      clear l0 s0 r0 hC1 hC2 hCR hV hVe
      go_wp2_with fail
      refine bodyPost_ret (results_none rfl _ _ _) rfl ?_
      exact ⟨rfl, by rw [hres.out]; exact hI1.pure hgu1, hG1.pure hgu1⟩

end Go.Proofs.YtanioobepfllgaaDoor

namespace Go.Proofs.YtanioobepfllgaaDoor
open Go Go.RowKit Go.Bl

theorem bit_tmod {T : List Int} {u b : Nat} (hu : u = bt T) (hb : b ≤ 3) : ((u : Int) / (2 : Int) ^ b).tmod 2 = ((b1 (memI T (b : Int)) : Nat) : Int) := by
  have h := bt_bit T hb
  rw [← hu, Nat.shiftRight_eq_div_pow] at h
  have e : (u : Int) / (2 : Int) ^ b = ((u / 2 ^ b : Nat) : Int) := by push_cast; rfl
  rw [e, Int.tmod_eq_emod_of_nonneg (Int.natCast_nonneg _), ← h]
  push_cast
  rfl

theorem Sl.dropG {α : Type} [Enc α] {w : World} {lo g o : Nat} {l : List α} (h : Sl w lo (some ⟨g, o, none⟩) l) (k : Nat) : Sl w lo (some ⟨g, o + k * Enc.sz α, none⟩) (l.drop k) := by
  obtain ⟨hm, cs, hr, hl⟩ := h
  refine ⟨by rw [List.length_drop]; omega, _, hr.drop k, fun hne => ?_⟩
  obtain ⟨ad, e, hb, hc⟩ := hl (by rintro rfl; simp at hne)
  injection e with e
  subst e
  refine ⟨_, rfl, hb, fun j u hu => ?_⟩
  rw [List.getElem?_drop] at hu
  have := hc _ u hu
  rw [Addr.add_lit] at this ⊢
  rwa [Nat.add_assoc]

set_option maxHeartbeats 8000000 in
set_option maxRecDepth 100000 in
theorem ear_any {w0 : World} {lo : Nat} {C : List BoxV} {gB gL gS : Nat} (p : List Prn) (j : List Jb) (ch : Int) (Pp : Option Addr) (cp : Nat) (J : Option Addr) (cj gJ gP gC gT : Nat) (tJ tP tC tT : TypeId) (hj4 : j.length ≤ 4) (hp3 : p.length ≤ 4) (hF : farmF p j = 0) (hc : spanF ch 0 100000 = 0) (hJ : Sl w0 0 J j) (hP : Sl w0 0 Pp p)
    (mJ : (⟨gJ, tJ, [.slice J j.length cj]⟩ : BoxV) ∈ C) (mP : (⟨gP, tP, [.slice Pp p.length cp]⟩ : BoxV) ∈ C) (mC : (⟨gC, tC, [.int .i64 ch]⟩ : BoxV) ∈ C) (mT : (⟨gT, tT, [.func (.func 32) #[] #[.pointer (some ⟨gJ, 0, none⟩), .pointer (some ⟨gP, 0, none⟩), .pointer (some ⟨gC, 0, none⟩), .pointer (some ⟨gL, 0, none⟩), .pointer (some ⟨gS, 0, none⟩), .pointer (some ⟨gB, 0, none⟩), .pointer (some ⟨gT, 0, none⟩)]]⟩ : BoxV) ∈ C) :
    ∀ (k : Nat) (P : List (List Int)) (bo : Option (List (List Int))) (w : World) (A : Option Addr) (c : Nat), P.flatten.length + k = j.length → (∃ r, Part p.length j.length r P) → Sl w lo A P → p.length ≤ c → InvG w0 lo C gB gL gS p j ch w bo →
    Calls Tryd.prog 32 #[.slice A p.length c, .int .i64 ((bt P.flatten : Nat) : Int), .pointer (some ⟨gJ, 0, none⟩), .pointer (some ⟨gP, 0, none⟩), .pointer (some ⟨gC, 0, none⟩), .pointer (some ⟨gL, 0, none⟩), .pointer (some ⟨gS, 0, none⟩), .pointer (some ⟨gB, 0, none⟩), .pointer (some ⟨gT, 0, none⟩)] w fun e w' => e = .returned (.tuple #[]) ∧ (∃ b', Bst p j ch (Ext p.length j.length P) bo b' ∧ InvG w0 lo C gB gL gS p j ch w' b') ∧ GrS (PG gB gL gS) w w' := by
  intro k
  induction k with
  | zero =>
    intro P bo w A c hk hpt hs hcap hI
    have hall : P.flatten.length = j.length := by omega
    obtain ⟨r, hr⟩ := hpt
    have hPl : IsPl p.length j.length P := ⟨hr.len, hr.isp, hall⟩
    have h := earLeaf_any p j ch Pp cp J cj gJ gP gC gT tJ tP tC hj4 hF hc hJ hP mJ mP mC P bo w A c hPl hs (by rw [hr.len]; exact hcap) hI
    rw [hr.len] at h
    refine h.mono ?_
    rintro e w' ⟨rfl, hI', hG⟩
    exact ⟨rfl, ⟨_, Bst.leaf (fun Q => ext_leaf hall ⟨r, hr⟩), hI'⟩, hG⟩
  | succ k ih =>
    intro P bo w A c hk hpt hs hcap hI
    obtain ⟨r, hr⟩ := hpt
    have hPl := hr.len
    have hisp := hr.isp
    have hlt0 : P.flatten.length < j.length := by omega
    have hall := hide fun X => SG_all (m := p.length) hlt0 hPl hisp X
    have hu15 := bt_le P.flatten
    have hne : bt P.flatten ≠ 2 ^ j.length - 1 := fun e => by have := (bt_all hj4 hisp).1 e; omega
    obtain ⟨N2, hN2⟩ : ∃ N : Int, N = ((2 ^ j.length : Nat) : Int) := ⟨_, rfl⟩
    have hpos : 1 ≤ 2 ^ j.length := Nat.one_le_two_pow
    have hNb : 1 ≤ N2 ∧ N2 ≤ 16 := by
      rw [hN2]
      have : 2 ^ j.length ≤ 2 ^ 4 := Nat.pow_le_pow_right (by decide) hj4
      omega
    have hEq : (((bt P.flatten : Nat) : Int) == N2 - 1) = false := by
      rw [hN2, beq_eq_false_iff_ne]
      clear hN2 hNb
      generalize 2 ^ j.length = M at *
      omega
    have hw2 : wrap64 ((2 : Int) ^ j.length) = N2 := by
      rw [i64_in, hN2]
      · push_cast; rfl
      · have e : ((2 ^ j.length : Nat) : Int) = (2 : Int) ^ j.length := by push_cast; rfl
        rw [← e, ← hN2]
        omega
    clear hne hpos hN2
    obtain ⟨u, hu⟩ : ∃ u, u = bt P.flatten := ⟨_, rfl⟩
    rw [← hu] at hEq hu15 ⊢
    replace hu := hide hu
    obtain ⟨j0, -⟩ := (hI.k _ mJ).c 0 rfl
    obtain ⟨p0, -⟩ := (hI.k _ mP).c 0 rfl
    have hpm := hp3
    replace ih := hide ih
    replace hk := hide hk
    replace hisp := hide hisp
    replace hPl := hide hPl
    have hst : Hid (Bst p j ch (SG p.length j.length P 0 0) bo bo) := Bst.none bo SG_zero
    clear hr
    go_enter Tryd.func32, Tryd.ntmps32
    go_wp2_with fail
    clear j0 p0 hEq hw2 hNb
    go_loopw [53] (fun i wr => ∃ (a : Nat) (bo' : Option (List (List Int))), a ≤ p.length ∧ i = .int .i64 a ∧ Hid (Bst p j ch (SG p.length j.length P a 0) bo bo') ∧ InvG w0 lo C gB gL gS p j ch wr bo' ∧ GrS (PG gB gL gS) w wr) (fun i _ => p.length - (intOf i).toNat)
    case atStart => exact ⟨0, bo, Nat.zero_le _, rfl, hst, hI, GrS.refl _ _⟩
    case round =>
      clear hst hI
      obtain ⟨a, bo', ha, rfl, hB, hI, hG⟩ := hrel
      by_cases hla : a < p.length
      · obtain ⟨j0, -⟩ := (hI.k _ mJ).c 0 rfl
        go_wp2_with fail
        clear j0
        go_loopw [58] (fun i wr => ∃ (b : Nat) (bo' : Option (List (List Int))), b ≤ j.length ∧ i = .int .i64 b ∧ Hid (Bst p j ch (SG p.length j.length P a b) bo bo') ∧ InvG w0 lo C gB gL gS p j ch wr bo' ∧ GrS (PG gB gL gS) w wr) (fun i _ => j.length - (intOf i).toNat)
        case atStart => exact ⟨0, bo', Nat.zero_le _, rfl, hB, hI, hG⟩
        case round =>
          clear hB hI hG bo'
          obtain ⟨b, bo', hb, rfl, hB, hI, hG⟩ := hrel
          by_cases hlb : b < j.length
          · have hsw := hG.sl hs (fun x e => (hI.ok.2.2 x e).1)
            obtain ⟨V, hV⟩ : ∃ V, V = (!memI P.flatten (b : Int) && !(P.drop (a + 1)).any fullB) := ⟨_, rfl⟩
            have hkb : b ≤ 3 := by omega
            have hbt := bit_tmod hu.out hkb
            have hlP : a < P.length := by rw [hPl.out]; exact hla
            obtain ⟨g, o, cx, rfl, -, -, -, -⟩ := hsw.at_ (by decide) hlP
            have hCF := hide (fun (A' : Option Addr) (nn cc : Nat) (hnn : nn = p.length - (a + 1)) (hA : A' = some ⟨g, o + (a + 1), none⟩ ∨ c = a + 1) => containsFull_any A' nn cc (P.drop (a + 1)) wr (by
              rcases hA with rfl | h
              · have := (Sl.dropG hsw (a + 1)).mono (Nat.zero_le _)
                rwa [show Enc.sz (List Int) = 1 from rfl, Nat.mul_one] at this
              · rw [List.drop_of_length_le (by rw [hPl.out]; omega)]
                exact Sl.nil) (by rw [List.length_drop, hPl.out]; exact hnn))
            have hskip := hide (fun (h : (!memI P.flatten (b : Int) && !(P.drop (a + 1)).any fullB) = false) => SG_skip (m := p.length) (n := j.length) h)
            have hmore := hide (fun (h : (!memI P.flatten (b : Int) && !(P.drop (a + 1)).any fullB) = true) => SG_more (m := p.length) (n := j.length) hla hlb h)
            rw [← hV] at hskip hmore
            go_upto_region 10 with fail
            go_cut [73] from 61 to 72 (fun s wx => s = .bool V ∧ wr.grownBy wx none)
            case first =>
              rcases hmem : memI P.flatten (b : Int) with _ | _
              · rw [hmem] at hV hbt
                replace hbt : ((u : Int) / (2 : Int) ^ b).tmod 2 = 0 := hbt
                generalize (P.drop (a + 1)).any fullB = fb at *
                replace hV : Hid (V = !fb) := by rw [Hid, hV]; simp
                by_cases hce : c = a + 1
                · have hch := hide hce
                  replace hce := hce.symm
                  go_wp2_with fail
                  clear hce
                  refine (hCF.out _ _ _ (by have := hch.out; omega) (.inr hch.out)).mono ?_
                  rintro e w3 ⟨rfl, hg3⟩
                  go_wp2_with fail
                  go_meet
                  exact ⟨by rw [hV.out], hg3⟩
                · go_wp2_with fail
                  refine (hCF.out _ _ _ rfl (.inl rfl)).mono ?_
                  rintro e w3 ⟨rfl, hg3⟩
                  go_wp2_with fail
                  go_meet
                  exact ⟨by rw [hV.out], hg3⟩
              · rw [hmem] at hV hbt
                replace hbt : ((u : Int) / (2 : Int) ^ b).tmod 2 = 1 := hbt
                replace hV : Hid (V = false) := by rw [Hid, hV]; simp
                go_wp2_with fail
                go_meet
                exact ⟨by rw [hV.out], World.grownBy.refl _ _⟩
            case rest =>
            obtain ⟨rfl, hgc⟩ := hcut
            clear hCF
            cases V with
            | false =>
              have hB2 : Hid (Bst p j ch (SG p.length j.length P a (b + 1)) bo bo') := hB.out.of (hskip.out rfl)
              have hI2 := hI.pure hgc
              have hG2 := hG.pure hgc
              clear hskip hmore hbt
              go_wp2_with fail
              (go_roundw; (case rel => exact ⟨b + 1, bo', by omega, by go_num, hB2, hI2, hG2⟩); (case measure => simp [intOf]; omega))
            | true =>
              have hI3 := hI.pure hgc
              have hG3 := hG.pure hgc
              have hs3 := hsw.pure hgc
              have hsz := hI3.sz
              obtain ⟨raws, hsr, har⟩ := sl_raws hs3
              have hrl : Hid (raws.length = p.length) := har.len.trans hPl.out
              have har2 := har
              have hC1 := hide (cloneRowsR_any (some ⟨g, o, none⟩) c raws wc (hsr.mono (Nat.zero_le _)) (by rw [hrl.out]; omega))
              rw [hrl.out] at hC1
              have hgd : P.getD a [] = P[a] := by simp [List.getD_eq_getElem?_getD, hlP]
              have hmore2 := fun X => hmore.out rfl X
              rw [hgd] at hmore2
              have hB2 := hide (fun b'' (h : Bst p j ch (Ext p.length j.length (P.set a (P[a] ++ [(b : Int)]))) bo' b'') => (hB.out.join h).of hmore2)
              clear hmore2 hB
              have hcond : memI P.flatten (b : Int) = false ∧ (P.drop (a + 1)).any fullB = false := by
                have h1 := hV.symm
                simpa using h1
              have hr : Part p.length j.length a P := ⟨hPl.out, hla, hisp.out, full_none.1 hcond.2⟩
              have hpush := hr.push hlb hcond.1
              have hpf := hr.push_flat (b : Int)
              rw [hgd] at hpush hpf
              have hor : Hid (u ||| 2 ^ b = bt (P.set a (P[a] ++ [(b : Int)])).flatten) := by rw [Hid, hpf, hu.out]; exact bt_or _ hkb hcond.1
              have hlen2 : Hid ((P.set a (P[a] ++ [(b : Int)])).flatten.length + k = j.length) := by
                rw [Hid, hpf, List.length_append]
                have := hk.out
                simp only [List.length_singleton]
                omega
              have hIH := hide (fun W A5 (h1 : Sl W lo A5 (P.set a (P[a] ++ [(b : Int)]))) c5 (h2 : p.length ≤ c5) (h3 : InvG w0 lo C gB gL gS p j ch W bo') => ih.out _ bo' W A5 c5 hlen2.out ⟨a, hpush⟩ h1 h2 h3)
              rw [← hor.out] at hIH
              have hra : a < raws.length := by rw [hrl.out]; exact hla
              obtain ⟨hn1, hn2, hn3⟩ := har.get a hra hlP
              have hq7 : P[a].length ≤ 4 := by
                have h1 := row_len hlP
                have h2 := few_rows hisp.out
                omega
              have hc0 : Hid (∀ W, wc.grownBy W none → W.cell? ⟨g, o + a, none⟩ = some (.slice raws[a].A raws[a].n raws[a].c)) := fun W hW => by
                obtain ⟨g', o', cx, eA, _, _, hcr, hcx⟩ := (hsr.pure hW).at_ (by decide) hra
                have hcr' : cx = [.slice raws[a].A raws[a].n raws[a].c] := hcr
                subst hcr'
                injection eA with eA
                injection eA with e1 e2
                subst e1
                subst e2
                have := hcx 0 _ rfl
                rwa [show Enc.sz RawS = 1 from rfl, Nat.mul_one, Nat.add_zero] at this
              rw [hn1] at hc0
              obtain ⟨q, hq0⟩ : ∃ q, q = P[a] := ⟨_, rfl⟩
              rw [← hq0] at hc0 hn3 hq7 hIH hB2
              have hset : Hid (q = P[a]) := hq0
              clear hq0 hgd hcond hV hpush hpf hskip hmore hbt hn1 hn2 hI hG hsw
              have hC2 := hide (fun W (h : wc.grownBy W none) => cloneInt_any raws[a].A raws[a].c q W ((hn3.mono (Nat.zero_le _)).pure h) (by omega))
              obtain ⟨i0, hi, hz9, hi1, hi2⟩ := info_parts infoI
              have ha0 : (0 : Int) ≤ (a : Int) ∧ (a : Int) < (p.length : Int) := by omega
              go_wp2_with fail
              refine hC1.out.mono ?_
              rintro e w3 ⟨A3, c3, rfl, hO3, hg3⟩
              obtain ⟨g3, rfl, hg3l, -⟩ := hO3.shape (by omega)
              have c0 := hc0.out w3 hg3
              have hw3 : wrap64 ((2 : Int) ^ b) = ((2 ^ b : Nat) : Int) := by
                rw [i64_in]
                · push_cast; rfl
                · rcases (show b = 0 ∨ b = 1 ∨ b = 2 ∨ b = 3 by omega) with rfl | rfl | rfl | rfl <;> decide
              have h2b : 2 ^ b < 256 := by
                rcases (show b = 0 ∨ b = 1 ∨ b = 2 ∨ b = 3 by omega) with rfl | rfl | rfl | rfl <;> decide
              have hrunor := bits_orS (u := u) (v := 2 ^ b) (by omega) h2b
              obtain ⟨K2, hK2⟩ : ∃ K : Int, K = ((2 ^ b : Nat) : Int) := ⟨_, rfl⟩
              rw [← hK2] at hw3 hrunor
              clear hK2 h2b
              obtain ⟨U2, hU2⟩ : ∃ U : Int, U = ((u ||| 2 ^ b : Nat) : Int) := ⟨_, rfl⟩
              rw [← hU2] at hrunor hIH
              clear hU2
              go_wp2_with fail
              refine (hC2.out w3 hg3).mono ?_
              rintro e w4 ⟨A4, c4, rfl, hO4, hg4⟩
              have hO3' := hO3.pure hg4
              have hq4 := gr_alloc (World.grownBy.refl w4 none) (.cells #[.int .i64 (b : Int)] 3)
              have hO4' := (hO4.lower hg3.size).pure hq4
              have hO3q := hO3'.pure hq4
              have hgw4 := (hg3.t hg4).t hq4
              have hsz4 := (hg3.t hg4).size
              go_wp2_with (at_builtin; refine wpList_pushAt (α := Int) _ rfl (.tmp 82) (.tmp 84) _ rfl wc.heap.size 3 i0 _ 8 Tryd.underlying22 hi hz9 hi1 hi2 rfl _ _ _ q rfl rfl (by exact hO4') 0 ⟨_, 0, none⟩ 1 1 [(b : Int)] rfl rfl (by exact sl_int1 _ _ _ _ (by first | rfl | simp)) ?c2 ?c3 ?c4 ?_)
              case c2 => simp; omega
              case c3 => simp [maxLen]; omega
              case c4 => simp; omega
              intro A5 c5 w5 hO5 hG5
              have h35 : wc.grownBy w5 none := gr_row hgw4 hG5.1 (fun x e => (hO4'.blk_lt e).1)
              have hO35 := hO3q.ne hG5.1 (fun x e e2 => hO3q.ne_own hO4' (by decide) e e2)
              have hO6 := hO35.put (j := 0) (x := (⟨A5, q.length + 1, c5⟩ : RawS)) (u := .slice A5 (q.length + 1) c5) hra (by decide) (by rintro c1 rfl; rfl)
              rw [show Enc.sz RawS = 1 from rfl, Nat.mul_one, Nat.add_zero] at hO6
              have hfr5 := hO35.frozen a
              obtain ⟨cq, hcr, hcq⟩ := hO35.cell_at (by decide) hra
              have hcr' : cq = [.slice raws[a].A raws[a].n raws[a].c] := hcr
              rw [hcr'] at hcq
              have hc5 : w5.cell? ⟨g3, a, none⟩ = some (.slice raws[a].A raws[a].n raws[a].c) := by
                have := hcq 0 _ rfl
                rw [show Enc.sz RawS = 1 from rfl] at this
                simpa using this
              have h36 : wc.grownBy (w5.setCell ⟨g3, a, none⟩ (.slice A5 (q.length + 1) c5)) none := gr_set (p := ⟨g3, a, none⟩) h35 (.inr hg3l) _
              have hS5 := (hO5.set_other (g' := g3) (i := a) (.slice A5 (q.length + 1) c5) (hO35.ne_own hO5 (by decide) rfl)).sl.mono hsz
              have hS6 : Sl (w5.setCell ⟨g3, a, none⟩ (.slice A5 (q.length + 1) c5)) lo (some ⟨g3, 0, none⟩) (P.set a (q ++ [(b : Int)])) := by
                refine raws_sl (hO6.sl.mono hsz) ?_
                refine (har2.imp fun r l ⟨x1, x2, x3⟩ => ⟨x1, x2, x3.pure h36⟩).set_ a ⟨by simp, ?_, hS5⟩
                have := hO5.cap
                simpa using this
              have hcap3 : p.length ≤ c3 := by
                have := hO3.cap
                rw [hrl.out] at this
                exact this
              have hI6 := hI3.pure h36
              have hG6 := hG3.pure h36
              have hIH6 := hide (hIH.out)
              clear hcr hcr' hcq hO6 hO35 hO3q hO4' hO4 hO3 hO3' hO5 hG5 hS5 hq4 hgw4 h35 hg3 hg4 c0 hi hz9 hi1 hi2 hI3 hG3
              go_upto_region 13 with fail
              obtain ⟨w6, hw6⟩ : ∃ x, x = w5.setCell ⟨g3, a, none⟩ (.slice A5 (q.length + 1) c5) := ⟨_, rfl⟩
              rw [← hw6] at hS6 hI6 hG6 ⊢
              clear hw6 h36 hc5 hfr5
              obtain ⟨t0, -⟩ := (hI6.k _ mT).c 0 rfl
              have hIH7 := hide fun W (h : w6.grownBy W none) => hIH.out W (some ⟨g3, 0, none⟩) (hS6.pure h) c3 hcap3 (hI6.pure h)
              clear hIH hIH6
              refine wp_region_tree (fun wx => w6.grownBy wx none) [1, 2, 2, 2, 2, 2, 0] (.bl 0 (.bl 1 (.bl 2 (.bl 3 (.bl 4 (.bl 5 (.ef 6 .done))))))) (by kernel_rfl) (by kernel_rfl) (gr_drew (World.grownBy.refl _ _)) ?_
              obtain ⟨u0, hu0⟩ : ∃ x, x = (w6).drew := ⟨_, rfl⟩
              rw [← hu0]
              have hgu0 : (w6).grownBy u0 none := by rw [hu0]; exact gr_drew (World.grownBy.refl _ _)
              clear hu0
              refine tree_b rfl rfl rfl rfl _ rfl (by simp) (fun K hK => ?_)
              apply Exists.intro
              refine ⟨fun wq hq K' hK' => ?_, ?_⟩
              · have t1 := hq.k t0
                go_wp2_with fail
                exact hK'
              go_simp
              refine hK _ ?_
              clear hK K
              refine tree_p rfl rfl rfl rfl _ rfl (by simp) (fun K hK => ?_)
              apply Exists.intro
              refine ⟨fun wq K' hK' => ?_, ?_⟩
              · go_wp2_with fail
                exact hK'
              go_simp
              refine hK _ ?_
              clear hK K
              refine tree_p rfl rfl rfl rfl _ rfl (by simp) (fun K hK => ?_)
              apply Exists.intro
              refine ⟨fun wq K' hK' => ?_, ?_⟩
              · go_wp2_with fail
                exact hK'
              go_simp
              refine hK _ ?_
              clear hK K
              refine tree_p rfl rfl rfl rfl _ rfl (by simp) (fun K hK => ?_)
              apply Exists.intro
              refine ⟨fun wq K' hK' => ?_, ?_⟩
              · go_wp2_with fail
                exact hK'
              go_simp
              refine hK _ ?_
              clear hK K
              refine tree_p rfl rfl rfl rfl _ rfl (by simp) (fun K hK => ?_)
              apply Exists.intro
              refine ⟨fun wq K' hK' => ?_, ?_⟩
              · go_wp2_with fail
                exact hK'
              go_simp
              refine hK _ ?_
              clear hK K
              refine tree_p rfl rfl rfl rfl _ rfl (by simp) (fun K hK => ?_)
              apply Exists.intro
              refine ⟨fun wq K' hK' => ?_, ?_⟩
              · go_wp2_with fail
                exact hK'
              go_simp
              refine hK _ ?_
              clear hK K
              refine tree_e0 (by kernel_rfl) rfl rfl (fun K hK => ?_)
              go_wp2_with fail
              refine (hIH7.out u0 hgu0).mono ?_
              rintro e w7 ⟨rfl, ⟨b'', hBb, hI7⟩, hG7⟩
              have hB3 := hide (hB2.out b'' hBb)
              clear hBb
              go_wp2_with fail
              try go_simp
              refine hK _ _ trivial ?_
              clear hK K
              refine tree_done ?_
              have hGz := (hG6.pure hgu0).trans hG7
              go_wp2_with fail
              (go_roundw; (case rel => exact ⟨b + 1, b'', by omega, by go_num, hB3, hI7, hGz⟩); (case measure => simp [intOf]; omega))
          · obtain rfl : b = j.length := by omega
            have hB2 : Hid (Bst p j ch (SG p.length j.length P (a + 1) 0) bo bo') := hB.out.of SG_next
            go_wp2_with fail
            (go_roundw; (case rel => exact ⟨a + 1, bo', by omega, by go_num, hB2, hI, hG⟩); (case measure => simp [intOf]; omega))
      · obtain rfl : a = p.length := by omega
        have hB2 : Hid (Bst p j ch (Ext p.length j.length P) bo bo') := hB.out.of (fun X => (hall.out X).symm)
        go_wp2_with fail
        go_end0
        exact ⟨rfl, ⟨bo', hB2.out, hI⟩, hG⟩

end Go.Proofs.YtanioobepfllgaaDoor

namespace Go.Proofs.YtanioobepfllgaaDoor
open Go Go.RowKit Go.Bl

set_option maxHeartbeats 4000000 in
set_option maxRecDepth 100000 in
theorem earliestOf_any (Pp : Option Addr) (cp : Nat) (p : List Prn) (J : Option Addr) (cj : Nat) (j : List Jb) (ch : Int) (w : World) (hP : Sl w 0 Pp p) (hJ : Sl w 0 J j) (hF : farmF p j = 0) (hc : spanF ch 0 100000 = 0) (hj4 : j.length ≤ 4) (hp3 : p.length ≤ 4) :
    Calls Tryd.prog 13 #[.slice Pp p.length cp, .slice J j.length cj, .int .i64 ch] w fun e w' => ∃ B d R, e = .returned (.tuple #[.slice B R.length d, .int .i64 (lstP p j ch R)]) ∧ BestP p j ch R ∧ Sl w' 0 B R ∧ w.grownBy w' none := by
  have hp0 := (farm_plen hF).1
  have hmf : ∀ (fn : Fn) (first cap : Array Value) (w : World), (Instr.makeFunc fn first cap).run Tryd.prog w = .ok (.func fn first cap) w := fun _ _ _ _ => rfl
  have hsf : ∀ (a : Addr) (fn : Fn) (first cap : Array Value) (m : Mode) (w : World), (store a (.func fn first cap) m).run Tryd.prog w = stored Tryd.prog w a (.func fn first cap) m := fun a fn first cap m w => run_store _ w a _ m rfl
  go_enter Tryd.func13, Tryd.ntmps13
  go_upto_region 1 with fail
  obtain ⟨w3, hw3⟩ : ∃ x, x = (w).alloc (.cells [.slice Pp p.length cp].toArray 26) := ⟨_, rfl⟩
  have hg3 : (w).grownBy w3 none := by rw [hw3]; exact gr_alloc (World.grownBy.refl _ _) _
  have hb3 : Box w3 (w).heap.size 26 [.slice Pp p.length cp] := by rw [hw3]; exact Box.new _ _ _
  have hz3 : w3.heap.size = (w).heap.size + 1 := by rw [hw3]; simp
  rw [← hw3]
  clear hw3
  obtain ⟨x3, hx3⟩ : ∃ x, x = (w).heap.size := ⟨_, rfl⟩
  rw [← hx3] at hb3 hz3 ⊢
  have hxl3 : (w).heap.size ≤ x3 := by omega
  have hy3 : x3 < w3.heap.size := by omega
  clear hx3
  rw [← hz3]
  clear hz3
  obtain ⟨w4, hw4⟩ : ∃ x, x = (w3).alloc (.cells [.slice J j.length cj].toArray 28) := ⟨_, rfl⟩
  have hg4 : (w3).grownBy w4 none := by rw [hw4]; exact gr_alloc (World.grownBy.refl _ _) _
  have hb4 : Box w4 (w3).heap.size 28 [.slice J j.length cj] := by rw [hw4]; exact Box.new _ _ _
  have hz4 : w4.heap.size = (w3).heap.size + 1 := by rw [hw4]; simp
  rw [← hw4]
  clear hw4
  obtain ⟨x4, hx4⟩ : ∃ x, x = (w3).heap.size := ⟨_, rfl⟩
  rw [← hx4] at hb4 hz4 ⊢
  have hxl4 : (w3).heap.size ≤ x4 := by omega
  have hy4 : x4 < w4.heap.size := by omega
  clear hx4
  rw [← hz4]
  clear hz4
  obtain ⟨w5, hw5⟩ : ∃ x, x = (w4).alloc (.cells [.int .i64 ch].toArray 3) := ⟨_, rfl⟩
  have hg5 : (w4).grownBy w5 none := by rw [hw5]; exact gr_alloc (World.grownBy.refl _ _) _
  have hb5 : Box w5 (w4).heap.size 3 [.int .i64 ch] := by rw [hw5]; exact Box.new _ _ _
  have hz5 : w5.heap.size = (w4).heap.size + 1 := by rw [hw5]; simp
  rw [← hw5]
  clear hw5
  obtain ⟨x5, hx5⟩ : ∃ x, x = (w4).heap.size := ⟨_, rfl⟩
  rw [← hx5] at hb5 hz5 ⊢
  have hxl5 : (w4).heap.size ≤ x5 := by omega
  have hy5 : x5 < w5.heap.size := by omega
  clear hx5
  clear hz5
  go_upto_region 3 with fail
  obtain ⟨w8, hw8⟩ : ∃ x, x = (w5).alloc (.cells [.slice none 0 0].toArray 36) := ⟨_, rfl⟩
  have hg8 : (w5).grownBy w8 none := by rw [hw8]; exact gr_alloc (World.grownBy.refl _ _) _
  have hb8 : Box w8 (w5).heap.size 36 [.slice none 0 0] := by rw [hw8]; exact Box.new _ _ _
  have hz8 : w8.heap.size = (w5).heap.size + 1 := by rw [hw8]; simp
  rw [← hw8]
  clear hw8
  obtain ⟨x8, hx8⟩ : ∃ x, x = (w5).heap.size := ⟨_, rfl⟩
  rw [← hx8] at hb8 hz8 ⊢
  have hxl8 : (w5).heap.size ≤ x8 := by omega
  have hy8 : x8 < w8.heap.size := by omega
  clear hx8
  rw [← hz8]
  clear hz8
  obtain ⟨w9, hw9⟩ : ∃ x, x = (w8).alloc (.cells [.int .i64 (-1)].toArray 3) := ⟨_, rfl⟩
  have hg9 : (w8).grownBy w9 none := by rw [hw9]; exact gr_alloc (World.grownBy.refl _ _) _
  have hb9 : Box w9 (w8).heap.size 3 [.int .i64 (-1)] := by rw [hw9]; exact Box.new _ _ _
  have hz9 : w9.heap.size = (w8).heap.size + 1 := by rw [hw9]; simp
  rw [← hw9]
  clear hw9
  obtain ⟨x9, hx9⟩ : ∃ x, x = (w8).heap.size := ⟨_, rfl⟩
  rw [← hx9] at hb9 hz9 ⊢
  have hxl9 : (w8).heap.size ≤ x9 := by omega
  have hy9 : x9 < w9.heap.size := by omega
  clear hx9
  rw [← hz9]
  clear hz9
  obtain ⟨w10, hw10⟩ : ∃ x, x = (w9).alloc (.cells [.int .i64 0].toArray 3) := ⟨_, rfl⟩
  have hg10 : (w9).grownBy w10 none := by rw [hw10]; exact gr_alloc (World.grownBy.refl _ _) _
  have hb10 : Box w10 (w9).heap.size 3 [.int .i64 0] := by rw [hw10]; exact Box.new _ _ _
  have hz10 : w10.heap.size = (w9).heap.size + 1 := by rw [hw10]; simp
  rw [← hw10]
  clear hw10
  obtain ⟨x10, hx10⟩ : ∃ x, x = (w9).heap.size := ⟨_, rfl⟩
  rw [← hx10] at hb10 hz10 ⊢
  have hxl10 : (w9).heap.size ≤ x10 := by omega
  have hy10 : x10 < w10.heap.size := by omega
  clear hx10
  clear hz10
  go_upto_region 4 with fail
  obtain ⟨w11, hw11⟩ : ∃ x, x = (w10).alloc (.cells [.nilFunc].toArray 73) := ⟨_, rfl⟩
  have hg11 : (w10).grownBy w11 none := by rw [hw11]; exact gr_alloc (World.grownBy.refl _ _) _
  have hb11 : Box w11 (w10).heap.size 73 [.nilFunc] := by rw [hw11]; exact Box.new _ _ _
  have hz11 : w11.heap.size = (w10).heap.size + 1 := by rw [hw11]; simp
  rw [← hw11]
  clear hw11
  obtain ⟨x11, hx11⟩ : ∃ x, x = (w10).heap.size := ⟨_, rfl⟩
  rw [← hx11] at hb11 hz11 ⊢
  have hxl11 : (w10).heap.size ≤ x11 := by omega
  have hy11 : x11 < w11.heap.size := by omega
  clear hx11
  clear hz11
  obtain ⟨m0, f0⟩ := hb11.c 0 rfl
  go_upto_region 5 with fail
  clear m0 f0 hsf hmf
  obtain ⟨w12, hw12⟩ : ∃ x, x = w11.setCell ⟨x11, 0, none⟩ (.func (.func 32) #[] #[.pointer (some ⟨x4, 0, none⟩), .pointer (some ⟨x3, 0, none⟩), .pointer (some ⟨x5, 0, none⟩), .pointer (some ⟨x9, 0, none⟩), .pointer (some ⟨x10, 0, none⟩), .pointer (some ⟨x8, 0, none⟩), .pointer (some ⟨x11, 0, none⟩)]) := ⟨_, rfl⟩
  have hb12 := hb11.set_ 0 (.func (.func 32) #[] #[.pointer (some ⟨x4, 0, none⟩), .pointer (some ⟨x3, 0, none⟩), .pointer (some ⟨x5, 0, none⟩), .pointer (some ⟨x9, 0, none⟩), .pointer (some ⟨x10, 0, none⟩), .pointer (some ⟨x8, 0, none⟩), .pointer (some ⟨x11, 0, none⟩)]) (by simp)
  have hg12 : w10.grownBy w12 none := by rw [hw12]; exact gr_set hg11 (.inr hxl11) _
  rw [← hw12] at hb12 ⊢
  have hy12 : w11.heap.size ≤ w12.heap.size := by rw [hw12]; simp
  clear hw12
  simp only [List.set_cons_zero] at hb12
  have h912 := hg10.t hg12
  have h812 := hg9.t h912
  have h512 := hg8.t h812
  have h412 := hg5.t h512
  have h312 := hg4.t h412
  have hw := hg3.t h312
  have hI0 : InvG w w12.heap.size [⟨x4, 28, [.slice J j.length cj]⟩, ⟨x3, 26, [.slice Pp p.length cp]⟩, ⟨x5, 3, [.int .i64 ch]⟩, ⟨x11, 73, [.func (.func 32) #[] #[.pointer (some ⟨x4, 0, none⟩), .pointer (some ⟨x3, 0, none⟩), .pointer (some ⟨x5, 0, none⟩), .pointer (some ⟨x9, 0, none⟩), .pointer (some ⟨x10, 0, none⟩), .pointer (some ⟨x8, 0, none⟩), .pointer (some ⟨x11, 0, none⟩)]]⟩] x8 x9 x10 p j ch w12 none := by
    refine ⟨fun b hb => ?_, ⟨none, 0, [], -1, 0, hb8.pure h812, hb9.pure h912, hb10.pure hg12, Sl.nil, Nat.le_refl _, rfl, rfl, rfl⟩, hw, Nat.le_refl _, fun b hb => ?_, by omega, fun x hx => ?_⟩
    · simp only [List.mem_cons, List.not_mem_nil, or_false] at hb
      rcases hb with rfl | rfl | rfl | rfl
      · exact hb4.pure h412
      · exact hb3.pure h312
      · exact hb5.pure h512
      · exact hb12
    · simp only [List.mem_cons, List.not_mem_nil, or_false] at hb
      unfold PG
      rcases hb with rfl | rfl | rfl | rfl <;> (simp only; omega)
    · unfold PG at hx
      omega
  obtain ⟨i0, hi, hz, hi1, hi2⟩ := info_parts info_intsR
  have hmk := hide (fun V => run_makeOwn (P := Tryd.prog) V 36 22 i0 _ (⟨none, 0, 0⟩ : RawS) Tryd.underlying36 hi hz hi1 rfl rfl .i64 .i64 p.length (by rw [hi2]; omega) (by simp [maxLen]; omega))
  clear hi hz hi1 hi2
  have hf0 : (List.replicate p.length ([] : List Int)).flatten = [] := flat_nil fun x hx => List.eq_of_mem_replicate hx
  have hM := hide (fun W A c (h : w12.grownBy W none) (hs : Sl W w12.heap.size A (List.replicate p.length ([] : List Int))) (hcap : p.length ≤ c) => ear_any p j ch Pp cp J cj x4 x3 x5 x11 28 26 3 73 hj4 hp3 hF hc hJ hP (by simp) (by simp) (by simp) (by simp) j.length (List.replicate p.length []) none W A c (by rw [hf0]; simp) ⟨0, part_start p j.length hp0⟩ hs hcap (hI0.pure h))
  rw [hf0, bt_nil] at hM
  obtain ⟨t0, -⟩ := hb12.c 0 rfl
  have p0 := ((hb3.pure h312).c 0 rfl).1
  clear hI0 hb3 hb4 hb5 hb8 hb9 hb10 hb11 hb12 hg3 hg4 hg5 hg8 hg9 hg10 hg11 hg12 h912 h812 h512 h412 h312 hf0
  refine wp_region_tree (fun wx => w12.grownBy wx none) [1, 1, 2, 0, 0] (.bl 0 (.bl 1 (.bl 2 (.ef 3 (.ef 4 .done))))) (by kernel_rfl) (by kernel_rfl) (gr_drew (World.grownBy.refl _ _)) ?_
  obtain ⟨u0, hu0⟩ : ∃ x, x = (w12).drew := ⟨_, rfl⟩
  rw [← hu0]
  have hgu0 : (w12).grownBy u0 none := by rw [hu0]; exact gr_drew (World.grownBy.refl _ _)
  clear hu0
  refine tree_b rfl rfl rfl rfl _ rfl (by simp) (fun K hK => ?_)
  apply Exists.intro
  refine ⟨fun wq hq K' hK' => ?_, ?_⟩
  · have k0 := hq.k t0
    have k1 := hq.k p0
    go_wp2_with fail
    exact hK'
  go_simp
  refine hK _ ?_
  clear hK K
  refine tree_b rfl rfl rfl rfl _ rfl (by simp) (fun K hK => ?_)
  apply Exists.intro
  refine ⟨fun wq hq K' hK' => ?_, ?_⟩
  · have k0 := hq.k t0
    have k1 := hq.k p0
    go_wp2_with fail
    exact hK'
  go_simp
  refine hK _ ?_
  clear hK K
  refine tree_p rfl rfl rfl rfl _ rfl (by simp) (fun K hK => ?_)
  apply Exists.intro
  refine ⟨fun wq K' hK' => ?_, ?_⟩
  · go_wp2_with fail
    exact hK'
  go_simp
  refine hK _ ?_
  clear hK K
  refine tree_e rfl rfl (fun K hK => ?_)
  obtain ⟨w13, hrun, hoO, hg13⟩ := hmk.out u0
  obtain ⟨qq, hqq⟩ : ∃ x, x = u0.heap.size := ⟨_, rfl⟩
  rw [← hqq] at hrun hoO
  have hqs : u0.heap.size ≤ qq := by omega
  replace hqq := hide hqq
  go_wp2_with fail
  clear hrun
  try go_simp
  refine hK _ _ (gr_trans hgu0 hg13) ?_
  clear hK K
  refine tree_e0 (by kernel_rfl) rfl rfl (fun K hK => ?_)
  have hgz := gr_trans hgu0 hg13
  have hR0 := RowsN.made (α := Int) hoO (ei := 3) (li := qq) (by decide) (Nat.le_refl _)
  have hM4 := hide (hM.out w13 (some ⟨qq, 0, none⟩) p.length hgz (hR0.sl.mono (Nat.le_trans hgu0.size hqs)) (Nat.le_refl _))
  clear hM hR0 hoO
  go_wp2_with fail
  refine hM4.out.mono ?_
  rintro e w14 ⟨rfl, ⟨b', hB, hI⟩, -⟩
  obtain ⟨R, rfl, hbest⟩ := best_of (p := p) (j := j) (ch := ch) hp0 (fun Q => ext_start hp0) hB
  obtain ⟨B, d, R', l, s, q1, q2, q3, q4, q5, rfl, hl, -⟩ := hI.bb
  have hgr := hI.gr
  replace hl := hide hl
  clear hM4 hB hI
  go_wp2_with fail
  try go_simp
  refine hK _ _ trivial ?_
  clear hK K
  refine tree_done ?_
  obtain ⟨b0, -⟩ := q1.c 0 rfl
  obtain ⟨l0, -⟩ := q2.c 0 rfl
  clear t0 p0
  go_upto_region 6 with fail
  refine wp_region_tree (fun wx => w14.grownBy wx none) [1, 1, 2, 2] (.bl 0 (.bl 1 (.bl 2 (.bl 3 .done)))) (by kernel_rfl) (by kernel_rfl) (gr_drew (World.grownBy.refl _ _)) ?_
  obtain ⟨u1, hu1⟩ : ∃ x, x = (w14).drew := ⟨_, rfl⟩
  rw [← hu1]
  have hgu1 : (w14).grownBy u1 none := by rw [hu1]; exact gr_drew (World.grownBy.refl _ _)
  clear hu1
  refine tree_b rfl rfl rfl rfl _ rfl (by simp) (fun K hK => ?_)
  apply Exists.intro
  refine ⟨fun wq hq K' hK' => ?_, ?_⟩
  · have k5 := hq.k b0
    have k6 := hq.k l0
    go_wp2_with fail
    exact hK'
  go_simp
  refine hK _ ?_
  clear hK K
  refine tree_b rfl rfl rfl rfl _ rfl (by simp) (fun K hK => ?_)
  apply Exists.intro
  refine ⟨fun wq hq K' hK' => ?_, ?_⟩
  · have k5 := hq.k b0
    have k6 := hq.k l0
    go_wp2_with fail
    exact hK'
  go_simp
  refine hK _ ?_
  clear hK K
  refine tree_p rfl rfl rfl rfl _ rfl (by simp) (fun K hK => ?_)
  apply Exists.intro
  refine ⟨fun wq K' hK' => ?_, ?_⟩
  · go_wp2_with fail
    exact hK'
  go_simp
  refine hK _ ?_
  clear hK K
  refine tree_p rfl rfl rfl rfl _ rfl (by simp) (fun K hK => ?_)
  apply Exists.intro
  refine ⟨fun wq K' hK' => ?_, ?_⟩
  · go_wp2_with fail
    exact hK'
  go_simp
  refine hK _ ?_
  clear hK K
  refine tree_done ?_
  go_wp2_with fail
  exact bodyPost_ret (v := .tuple #[.slice B R'.length d, .int .i64 l]) (by simp [results, Tryd.results13, go_sem]) rfl ⟨B, d, R', by rw [hl.out], hbest, (q4.mono (Nat.zero_le _)).pure hgu1, hgr.t hgu1⟩

/-! ### with faults -/

set_option maxHeartbeats 1000000 in
theorem earliestBad_any (P : Option Addr) (cp : Nat) (p : List Prn) (J : Option Addr) (cj : Nat) (j : List Jb) (ch : Int) (w : World) (hP : Sl w 0 P p) (hJ : Sl w 0 J j) (h : (if farmF p j = 0 then spanF ch 0 100000 else farmF p j) ≠ 0) :
    Calls Tryd.prog 11 #[.slice P p.length cp, .slice J j.length cj, .int .i64 ch] w fun e w' => e = .returned (.tuple #[.slice none 0 0, .int .i64 0, .int .i64 (if farmF p j = 0 then spanF ch 0 100000 else farmF p j)]) ∧ w.grownBy w' none := by
  have hf := hide (fault_any P cp p J cj j w hP hJ)
  by_cases h0 : farmF p j = 0
  · rw [if_pos h0] at h ⊢
    rw [h0] at hf
    have hout : outB ch 0 100000 = true := by
      rw [spanF_outB] at h
      rcases hq : outB ch 0 100000 with _ | _
      · rw [hq] at h; simp at h
      · rfl
    have hs : spanF ch 0 100000 = 1 := by rw [spanF_outB, hout]; rfl
    rw [hs]
    clear h h0 hs
    go_enter Tryd.func11, Tryd.ntmps11
    go_wp2_with fail
    refine hf.out.mono ?_
    rintro e w1 ⟨rfl, hg1⟩
    go_wp2_with (go_at_call 29; refine (isChange_any _ _).mono ?_; rintro _ _ ⟨rfl, rfl⟩; rw [hout])
    exact bodyPost_ret (v := .tuple #[.slice none 0 0, .int .i64 0, .int .i64 1]) (by simp [results, Tryd.results11, go_sem]) rfl ⟨rfl, hg1⟩
  · rw [if_neg h0] at h ⊢
    generalize farmF p j = F at *
    have hb : (F != 0) = true := by simp [h]
    clear h h0
    go_enter Tryd.func11, Tryd.ntmps11
    go_wp2_with fail
    refine hf.out.mono ?_
    rintro e w1 ⟨rfl, hg1⟩
    go_wp2_with fail
    exact bodyPost_ret (v := .tuple #[.slice none 0 0, .int .i64 0, .int .i64 F]) (by simp [results, Tryd.results11, go_sem]) rfl ⟨rfl, hg1⟩

set_option maxHeartbeats 1000000 in
theorem greedyBad_any (P : Option Addr) (cp : Nat) (p : List Prn) (J : Option Addr) (cj : Nat) (j : List Jb) (ch : Int) (w : World) (hP : Sl w 0 P p) (hJ : Sl w 0 J j) (h : (if farmF p j = 0 then spanF ch 0 100000 else farmF p j) ≠ 0) :
    Calls Tryd.prog 12 #[.slice P p.length cp, .slice J j.length cj, .int .i64 ch] w fun e w' => e = .returned (.tuple #[.slice none 0 0, .int .i64 0, .int .i64 (if farmF p j = 0 then spanF ch 0 100000 else farmF p j)]) ∧ w.grownBy w' none := by
  have hf := hide (fault_any P cp p J cj j w hP hJ)
  by_cases h0 : farmF p j = 0
  · rw [if_pos h0] at h ⊢
    rw [h0] at hf
    have hout : outB ch 0 100000 = true := by
      rw [spanF_outB] at h
      rcases hq : outB ch 0 100000 with _ | _
      · rw [hq] at h; simp at h
      · rfl
    have hs : spanF ch 0 100000 = 1 := by rw [spanF_outB, hout]; rfl
    rw [hs]
    clear h h0 hs
    go_enter Tryd.func12, Tryd.ntmps12
    go_wp2_with fail
    refine hf.out.mono ?_
    rintro e w1 ⟨rfl, hg1⟩
    go_wp2_with (go_at_call 29; refine (isChange_any _ _).mono ?_; rintro _ _ ⟨rfl, rfl⟩; rw [hout])
    exact bodyPost_ret (v := .tuple #[.slice none 0 0, .int .i64 0, .int .i64 1]) (by simp [results, Tryd.results12, go_sem]) rfl ⟨rfl, hg1⟩
  · rw [if_neg h0] at h ⊢
    generalize farmF p j = F at *
    have hb : (F != 0) = true := by simp [h]
    clear h h0
    go_enter Tryd.func12, Tryd.ntmps12
    go_wp2_with fail
    refine hf.out.mono ?_
    rintro e w1 ⟨rfl, hg1⟩
    go_wp2_with fail
    exact bodyPost_ret (v := .tuple #[.slice none 0 0, .int .i64 0, .int .i64 F]) (by simp [results, Tryd.results12, go_sem]) rfl ⟨rfl, hg1⟩

end Go.Proofs.YtanioobepfllgaaDoor

/- Contracts of functions that this seat's laws reach, each: what one call returns and what it leaves in memory; no condition beyond each theorem's own hypotheses. -/
import Derived.Test.YtanioobepfllgaaDoorZqEqStr
import Derived.Test.YtanioobepfllgaaDoorZqGrS
import Derived.Test.YtanioobepfllgaaDoorZqSlices
import Derived.Test.YtanioobepfllgaaDoorZqBitRun
import Derived.Test.YtanioobepfllgaaDoorZqTree
set_option linter.unusedVariables false
set_option linter.unusedSimpArgs false
namespace Go.Proofs.YtanioobepfllgaaDoor
open Go Go.RowKit Go.Bl

/-- a box that stays -/
structure BoxV where
  g : Nat
  t : TypeId
  v : List Value
/-- the places of the search -/
structure Env where
  w0 : World
  lo : Nat
  C : List BoxV
  gO : Nat
  gU : Nat
  gL : Nat
  gB : Nat
  tO : TypeId
  tL : TypeId
  tB : TypeId
/-- they are apart -/
structure Env.Ok (E : Env) : Prop where
  c : ∀ b ∈ E.C, b.g ≠ E.gO ∧ b.g ≠ E.gU ∧ b.g ≠ E.gL ∧ b.g ≠ E.gB ∧ b.g < E.lo
  ou : E.gO ≠ E.gU
  ol : E.gO ≠ E.gL
  ob : E.gO ≠ E.gB
  ul : E.gU ≠ E.gL
  ub : E.gU ≠ E.gB
  lb : E.gL ≠ E.gB
  ho : E.gO < E.lo ∧ E.w0.heap.size ≤ E.gO
  hu : E.gU < E.lo ∧ E.w0.heap.size ≤ E.gU
  hl : E.gL < E.lo ∧ E.w0.heap.size ≤ E.gL
  hb : E.gB < E.lo ∧ E.w0.heap.size ≤ E.gB
/-- the world while orders are tried: the order so far, what is used, what is found so far -/
structure Inv (E : Env) (n : Nat) (wr : World) (ord T : List Int) (V VB : Value) (lst : Int) (A : Option Addr) (c : Nat) (B : Option Addr) (bst : List Int) : Prop where
  k : ∀ b ∈ E.C, Box wr b.g b.t b.v
  bo : Box wr E.gO E.tO [V]
  ow : Own wr E.lo 3 A c ord
  us : Own wr 0 4 (some ⟨E.gU, 0, none⟩) n (seenN n T)
  bl : Box wr E.gL E.tL [.int .i64 lst]
  bb : Box wr E.gB E.tB [VB]
  sb : Sl wr 0 B bst
  ne : ∀ g, blk B = some g → blk A ≠ some g ∧ E.lo ≤ g ∧ g < wr.heap.size
  gr : E.w0.grownBy wr none
  sz : E.lo ≤ wr.heap.size
variable {E : Env} {n : Nat} {wr w' : World} {ord T : List Int} {V VB : Value} {lst : Int} {A : Option Addr} {c : Nat} {B : Option Addr} {bst : List Int}

theorem Inv.pure (h : Inv E n wr ord T V VB lst A c B bst) (hg : wr.grownBy w' none) : Inv E n w' ord T V VB lst A c B bst :=
  ⟨fun b hb => (h.k b hb).pure hg, h.bo.pure hg, h.ow.pure hg, h.us.pure hg, h.bl.pure hg, h.bb.pure hg, h.sb.pure hg, fun g e => ⟨(h.ne g e).1, (h.ne g e).2.1, Nat.lt_of_lt_of_le (h.ne g e).2.2 hg.size⟩, h.gr.t hg, Nat.le_trans h.sz hg.size⟩

theorem Inv.ablk (h : Inv E n wr ord T V VB lst A c B bst) {x : Nat} (hx : x < E.lo) : blk A ≠ some x := fun e => by have := (h.ow.blk_lt e).1; omega

theorem Inv.bblk (h : Inv E n wr ord T V VB lst A c B bst) {x : Nat} (hx : x < E.lo) : blk B ≠ some x := fun e => by have := (h.ne x e).2.1; omega
/-- a write into a box below lo -/
theorem Inv.keep (h : Inv E n wr ord T V VB lst A c B bst) {x : Nat} (hx : x < E.lo) (hw : E.w0.heap.size ≤ x) (hg : wr.grownBy w' (some x)) :
    Own w' E.lo 3 A c ord ∧ Sl w' 0 B bst ∧ (∀ g, blk B = some g → blk A ≠ some g ∧ E.lo ≤ g ∧ g < w'.heap.size) ∧ E.w0.grownBy w' none ∧ E.lo ≤ w'.heap.size :=
  ⟨h.ow.ne hg (fun g e q => by cases q; exact h.ablk hx e), h.sb.ne hg (fun g e q => by cases q; exact h.bblk hx e), fun g e => ⟨(h.ne g e).1, (h.ne g e).2.1, Nat.lt_of_lt_of_le (h.ne g e).2.2 hg.size⟩, gr_row h.gr hg (fun g e => by cases e; exact hw), Nat.le_trans h.sz hg.size⟩

theorem Inv.useK (h : Inv E n wr ord T V VB lst A c B bst) {x : Nat} (hx : ∀ b ∈ E.C, b.g ≠ x) (hg : wr.grownBy w' (some x)) : ∀ b ∈ E.C, Box w' b.g b.t b.v :=
  fun b hb => (h.k b hb).gr hg (fun e => by cases e; exact hx b hb rfl)

theorem Inv.setU (h : Inv E n wr ord T V VB lst A c B bst) (hE : E.Ok) {i : Nat} {v : Bool} {T' : List Int} (hi : i < n) (hT : (seenN n T).set i v = seenN n T') :
    Inv E n (wr.setCell ⟨E.gU, i, none⟩ (.bool v)) ord T' V VB lst A c B bst := by
  have hg := gr_set (World.grownBy.refl wr (some E.gU)) (p := ⟨E.gU, i, none⟩) (.inl rfl) (.bool v)
  obtain ⟨k1, k2, k3, k4, k5⟩ := h.keep hE.hu.1 hE.hu.2 hg
  have hu := h.us.put (i := i) (j := 0) (x := v) (u := .bool v) (by rw [seenN_len]; exact hi) (by decide) (by rintro c1 rfl; rfl)
  rw [show i * Enc.sz Bool + 0 = i from by rw [show Enc.sz Bool = 1 from rfl]; omega, hT] at hu
  exact ⟨h.useK (fun b hb => (hE.c b hb).2.1) hg, h.bo.gr hg (fun e => by injection e with e; exact hE.ou e.symm), k1, hu, h.bl.gr hg (fun e => by injection e with e; exact hE.ul e), h.bb.gr hg (fun e => by injection e with e; exact hE.ub e), k2, k3, k4, k5⟩

theorem Inv.setO (h : Inv E n wr ord T V VB lst A c B bst) (hE : E.Ok) (V' : Value) : Inv E n (wr.setCell ⟨E.gO, 0, none⟩ V') ord T V' VB lst A c B bst := by
  have hg := gr_set (World.grownBy.refl wr (some E.gO)) (p := ⟨E.gO, 0, none⟩) (.inl rfl) V'
  obtain ⟨k1, k2, k3, k4, k5⟩ := h.keep hE.ho.1 hE.ho.2 hg
  exact ⟨h.useK (fun b hb => (hE.c b hb).1) hg, h.bo.set_ 0 V' (by simp), k1, h.us.ne hg (fun g e q => hE.ou ((Option.some.inj q).trans (Option.some.inj (show some E.gU = some g from e)).symm)), h.bl.gr hg (fun e => by injection e with e; exact hE.ol e), h.bb.gr hg (fun e => by injection e with e; exact hE.ob e), k2, k3, k4, k5⟩

theorem Inv.setL (h : Inv E n wr ord T V VB lst A c B bst) (hE : E.Ok) (m : Int) : Inv E n (wr.setCell ⟨E.gL, 0, none⟩ (.int .i64 m)) ord T V VB m A c B bst := by
  have hg := gr_set (World.grownBy.refl wr (some E.gL)) (p := ⟨E.gL, 0, none⟩) (.inl rfl) (.int .i64 m)
  obtain ⟨k1, k2, k3, k4, k5⟩ := h.keep hE.hl.1 hE.hl.2 hg
  exact ⟨h.useK (fun b hb => (hE.c b hb).2.2.1) hg, h.bo.gr hg (fun e => by injection e with e; exact hE.ol e.symm), k1, h.us.ne hg (fun g e q => hE.ul ((Option.some.inj (show some E.gU = some g from e)).trans (Option.some.inj q).symm)), h.bl.set_ 0 (.int .i64 m) (by simp), h.bb.gr hg (fun e => by injection e with e; exact hE.lb e), k2, k3, k4, k5⟩

theorem Inv.setB (h : Inv E n wr ord T V VB lst A c B bst) (hE : E.Ok) (VB' : Value) : Inv E n (wr.setCell ⟨E.gB, 0, none⟩ VB') ord T V VB' lst A c B bst := by
  have hg := gr_set (World.grownBy.refl wr (some E.gB)) (p := ⟨E.gB, 0, none⟩) (.inl rfl) VB'
  obtain ⟨k1, k2, k3, k4, k5⟩ := h.keep hE.hb.1 hE.hb.2 hg
  exact ⟨h.useK (fun b hb => (hE.c b hb).2.2.2.1) hg, h.bo.gr hg (fun e => by injection e with e; exact hE.ob e.symm), k1, h.us.ne hg (fun g e q => hE.ub ((Option.some.inj (show some E.gU = some g from e)).trans (Option.some.inj q).symm)), h.bl.gr hg (fun e => by injection e with e; exact hE.lb e.symm), h.bb.set_ 0 VB' (by simp), k2, k3, k4, k5⟩
/-- the order has grown -/
theorem Inv.grew (h : Inv E n wr ord T V VB lst A c B bst) (hE : E.Ok) {ord' : List Int} {A' : Option Addr} {c' : Nat} (hO : Own w' E.lo 3 A' c' ord') (hG : Grew A A' wr w') : Inv E n w' ord' T V VB lst A' c' B bst := by
  have hne : ∀ x, x < E.lo → blk A ≠ some x := fun x hx => h.ablk hx
  refine ⟨fun b hb => (h.k b hb).gr hG.1 (hne _ (hE.c b hb).2.2.2.2), h.bo.gr hG.1 (hne _ hE.ho.1), hO, h.us.ne hG.1 (fun g e q => by cases e; exact hne _ hE.hu.1 q), h.bl.gr hG.1 (hne _ hE.hl.1), h.bb.gr hG.1 (hne _ hE.hb.1), h.sb.ne hG.1 (fun g e => (h.ne g e).1), fun g e => ⟨?_, (h.ne g e).2.1, Nat.lt_of_lt_of_le (h.ne g e).2.2 hG.1.size⟩, gr_row h.gr hG.1 (fun g e => ?_), Nat.le_trans h.sz hG.1.size⟩
  · rcases hG.2 with q | q
    · rw [q]; exact (h.ne g e).1
    · rw [q]; intro r; have h1 := (h.ne g e).2.2; injection r with r; omega
  · have h1 := (h.ow.blk_lt e).1
    have h2 := hE.ho
    omega
/-- the order is cut -/
theorem Inv.cut {x : Int} (h : Inv E n wr (ord ++ [x]) T V VB lst A c B bst) {gA : Nat} (hA : A = some ⟨gA, 0, none⟩) : Inv E n wr ord T V VB lst A c B bst := by
  subst hA
  have := h.ow.cut (m := ord.length) (by simp)
  rw [List.take_left'] at this
  · exact ⟨h.k, h.bo, this, h.us, h.bl, h.bb, h.sb, h.ne, h.gr, h.sz⟩
  · rfl
/-- another best order, of new memory -/
theorem Inv.best (h : Inv E n wr ord T V VB lst A c B bst) {B' : Option Addr} {b' : List Int} (hs : Sl wr 0 B' b') (hb : ∀ g, blk B' = some g → blk A ≠ some g ∧ E.lo ≤ g ∧ g < wr.heap.size) : Inv E n wr ord T V VB lst A c B' b' :=
  ⟨h.k, h.bo, h.ow, h.us, h.bl, h.bb, hs, hb, h.gr, h.sz⟩

end Go.Proofs.YtanioobepfllgaaDoor

namespace Go.Proofs.YtanioobepfllgaaDoor
open Go Go.RowKit Go.Bl

def InvE (E : Env) (n : Nat) (wr : World) (ord : List Int) (s : List Int × Int) : Prop := ∃ A c B d, s.1.length ≤ d ∧ Inv E n wr ord ord (.slice A ord.length c) (.slice B s.1.length d) s.2 A c B s.1

theorem seen_snoc {n : Nat} {T : List Int} {m : Nat} : (seenN n T).set m true = seenN n (T ++ [(m : Int)]) := by
  apply List.ext_getElem
  · simp [seenN]
  · intro j h1 h2
    rw [List.getElem_set, seenN_get h2, memI_snoc]
    by_cases hj : m = j
    · subst hj; simp
    · rw [if_neg hj, seenN_get]
      have : ¬ ((j : Int) = (m : Int)) := by omega
      simp [this]

theorem seen_back {n : Nat} {T : List Int} {m : Nat} (h : memI T (m : Int) = false) : (seenN n (T ++ [(m : Int)])).set m false = seenN n T := by
  apply List.ext_getElem
  · simp [seenN]
  · intro j h1 h2
    rw [List.getElem_set, seenN_get h2]
    by_cases hj : m = j
    · subst hj; rw [if_pos rfl, h]
    · rw [if_neg hj, seenN_get, memI_snoc]
      have : ¬ ((j : Int) = (m : Int)) := by omega
      simp [this]

theorem isP_snoc {n : Nat} {o : List Int} (ho : IsP n o) {m : Nat} (hm : m < n) (hn : memI o (m : Int) = false) : IsP n (o ++ [(m : Int)]) := by
  unfold memI at hn
  rw [decide_eq_false_iff_not] at hn
  refine ⟨?_, fun i hi => ?_⟩
  · rw [List.nodup_append]
    refine ⟨ho.nd, by simp, fun a ha b hb => ?_⟩
    rw [List.mem_singleton] at hb
    subst hb
    exact fun e => hn (e ▸ ha)
  · rw [List.mem_append, List.mem_singleton] at hi
    rcases hi with hi | rfl
    · exact ho.bd i hi
    · omega

theorem moreL_in {g : List Int → List Int × Int → List Int × Int} {o : List Int} {s : List Int × Int} {m : Nat} (h : memI o (m : Int) = true) : moreL g o s (m + 1) = moreL g o s m := by
  unfold memI at h; rw [decide_eq_true_eq] at h
  show (if (m : Int) ∈ o then _ else _) = _
  rw [if_pos h]

theorem moreL_out {g : List Int → List Int × Int → List Int × Int} {o : List Int} {s : List Int × Int} {m : Nat} (h : memI o (m : Int) = false) : moreL g o s (m + 1) = g (o ++ [(m : Int)]) (moreL g o s m) := by
  unfold memI at h; rw [decide_eq_false_iff_not] at h
  show (if (m : Int) ∈ o then _ else _) = _
  rw [if_neg h]

set_option maxHeartbeats 2000000 in
set_option maxRecDepth 100000 in
theorem more_any (E : Env) (hE : E.Ok) (n : Nat) (hn7 : n ≤ 7) (f : List Int → Int) (gN gD gS gM gP gJ gC : Nat) (tN tD tS tM : TypeId)
    (hN : (⟨gN, tN, [.int .i64 (n : Int)]⟩ : BoxV) ∈ E.C) (hD : (⟨gD, tD, [.func (.func 46) #[] #[.pointer (some ⟨gP, 0, none⟩), .pointer (some ⟨gJ, 0, none⟩), .pointer (some ⟨gC, 0, none⟩), .pointer (some ⟨E.gL, 0, none⟩), .pointer (some ⟨E.gB, 0, none⟩)]]⟩ : BoxV) ∈ E.C)
    (hS : (⟨gS, tS, [.slice (some ⟨E.gU, 0, none⟩) n n]⟩ : BoxV) ∈ E.C) (hM : (⟨gM, tM, [.func (.func 62) #[] #[.pointer (some ⟨E.gO, 0, none⟩), .pointer (some ⟨gN, 0, none⟩), .pointer (some ⟨gD, 0, none⟩), .pointer (some ⟨gS, 0, none⟩), .pointer (some ⟨gM, 0, none⟩)]]⟩ : BoxV) ∈ E.C)
    (hdo : ∀ wr ord s A c B d, s.1.length ≤ d → Inv E n wr ord ord (.slice A ord.length c) (.slice B s.1.length d) s.2 A c B s.1 → ord.length = n → IsP n ord →
      Calls Tryd.prog 46 #[.slice A ord.length c, .pointer (some ⟨gP, 0, none⟩), .pointer (some ⟨gJ, 0, none⟩), .pointer (some ⟨gC, 0, none⟩), .pointer (some ⟨E.gL, 0, none⟩), .pointer (some ⟨E.gB, 0, none⟩)] wr fun e w' => e = .returned (.tuple #[]) ∧ InvE E n w' ord (stepO f s ord)) :
    ∀ (k : Nat) (ord : List Int) (s : List Int × Int) (w : World), ord.length + k = n → IsP n ord → InvE E n w ord s →
      Calls Tryd.prog 62 #[.pointer (some ⟨E.gO, 0, none⟩), .pointer (some ⟨gN, 0, none⟩), .pointer (some ⟨gD, 0, none⟩), .pointer (some ⟨gS, 0, none⟩), .pointer (some ⟨gM, 0, none⟩)] w fun e w' => e = .returned (.tuple #[]) ∧ InvE E n w' ord (moreS f n k ord s) := by
  intro k
  induction k with
  | zero =>
    intro ord s w hk hp hI
    obtain ⟨A, c, B, d, hdl, hI⟩ := hI
    have hdo' := hide (hdo w ord s A c B d hdl hI (by omega) hp)
    have hko : Hid (ord.length = n) := by rw [Hid]; omega
    have hb : ((ord.length : Int) == (n : Int)) = true := by simp; omega
    obtain ⟨o0, -⟩ := hI.bo.c 0 rfl
    obtain ⟨n0, -⟩ := (hI.k _ hN).c 0 rfl
    obtain ⟨d0, -⟩ := (hI.k _ hD).c 0 rfl
    clear hk hI hdo hdl
    go_enter Tryd.func62, Tryd.ntmps62
    go_wp2_with fail
    refine hdo'.out.mono ?_
    rintro e w2 ⟨rfl, h2⟩
    go_wp2_with fail
    refine bodyPost_ret (results_none rfl _ _ _) rfl ?_
    exact ⟨rfl, h2⟩
  | succ k ih =>
    intro ord s w hk hp hI
    obtain ⟨A, c, B, d, hdl, hI⟩ := hI
    have hb : ((ord.length : Int) == (n : Int)) = false := by simp; omega
    have ho7 : ord.length ≤ 6 := by omega
    have hst : InvE E n w ord (moreL (moreS f n k) ord s 0) := ⟨A, c, B, d, hdl, hI⟩
    obtain ⟨o0, -⟩ := hI.bo.c 0 rfl
    obtain ⟨n0, -⟩ := (hI.k _ hN).c 0 rfl
    have hkk : Hid (ord.length + (k + 1) = n) := hk
    replace ih := hide ih
    replace hp := hide hp
    clear hk hI hdo hdl
    go_enter Tryd.func62, Tryd.ntmps62
    go_wp2_with fail
    go_loopw [14] (fun i wr => ∃ m : Nat, m ≤ n ∧ i = .int .i64 m ∧ InvE E n wr ord (moreL (moreS f n k) ord s m)) (fun i _ => n - (intOf i).toNat)
    case atStart => exact ⟨0, Nat.zero_le _, rfl, hst⟩
    case round =>
      clear hst o0 n0
      obtain ⟨m, hm, rfl, A, c, B, d, hdl, hI⟩ := hrel
      replace hdl := hide hdl
      by_cases hlt : m < n
      · have hml : m < (seenN n ord).length := by rw [seenN_len]; exact hlt
        obtain ⟨cc, hcr, hcc⟩ := hI.us.cell_at (by decide) hml
        have hcu : wr.cell? ⟨E.gU, m, none⟩ = some (.bool (memI ord (m : Int))) := by
          have hcr' : cc = [.bool (seenN n ord)[m]] := hcr
          rw [seenN_get] at hcr'
          subst hcr'
          have := hcc 0 _ rfl
          rwa [show Enc.sz Bool = 1 from rfl, Nat.mul_one, Nat.add_zero] at this
        have hfu := hI.us.frozen m
        obtain ⟨s0, -⟩ := (hI.k _ hS).c 0 rfl
        have hm0 : (0 : Int) ≤ (m : Int) ∧ (m : Int) < (n : Int) := by omega
        clear hcr hcc
        have hin := hide (@moreL_in (moreS f n k) ord s m)
        have hout := hide (@moreL_out (moreS f n k) ord s m)
        obtain ⟨S, hSe⟩ : ∃ S, moreL (moreS f n k) ord s m = S := ⟨_, rfl⟩
        rw [hSe] at hI hin hout hdl
        replace hSe := hide hSe
        rcases hmem : memI ord (m : Int) with _ | _
        · rw [hmem] at hcu
          have hnx := hide (hout.out hmem)
          have hI1 := hI.setU hE hlt (v := true) (T' := ord ++ [(m : Int)]) seen_snoc
          have hbk : Hid ((seenN n (ord ++ [(m : Int)])).set m false = seenN n ord) := seen_back hmem
          have hp2 := hide (isP_snoc hp.out hlt hmem)
          replace hmem := hide hmem
          clear hin hout
          go_upto_region 7 with fail
          obtain ⟨w1, hw1⟩ : ∃ W : World, W = wr.setCell ⟨E.gU, m, none⟩ (.bool true) := ⟨_, rfl⟩
          rw [← hw1] at hI1 ⊢
          clear hw1 hI hcu hfu s0
          obtain ⟨o0, -⟩ := hI1.bo.c 0 rfl
          have hga := gr_alloc (World.grownBy.refl w1 none) (.cells #[.int .i64 (m : Int)] 3)
          have hIa := hI1.pure hga
          obtain ⟨i0, hi, hz, hi1, hi2⟩ := info_parts info_int
          have hsz := hIa.sz
          go_wp2_with (at_builtin; refine wpList_pushAt (α := Int) _ rfl (.tmp 25) (.tmp 27) _ rfl E.lo 3 i0 _ 8 Tryd.underlying22 hi hz hi1 hi2 rfl _ _ _ ord rfl rfl (by exact hIa.ow) 0 ⟨_, 0, none⟩ 1 1 [(m : Int)] rfl rfl (by exact sl_int1 _ _ _ _ (by first | rfl | simp)) ?c2 ?c3 ?c4 ?_)
          case c2 => simp; omega
          case c3 => simp [maxLen]; omega
          case c4 => first | exact hsz | (simp; omega)
          intro A2 c2 w2 hO2 hG2
          have hI2 := hIa.grew hE hO2 hG2
          obtain ⟨o0', f0'⟩ := hI2.bo.c 0 rfl
          have hI3 := hI2.setO hE (.slice A2 (ord ++ [(m : Int)]).length c2)
          clear hI1 hIa o0 hga hO2 hG2
          go_upto_region 8 with fail
          have hlen : (ord ++ [(m : Int)]).length = ord.length + 1 := by simp
          rw [hlen] at hI3
          obtain ⟨w3, hw3⟩ : ∃ W : World, W = w2.setCell ⟨E.gO, 0, none⟩ (.slice A2 (ord.length + 1 : Nat) c2) := ⟨_, rfl⟩
          rw [← hw3] at hI3 ⊢
          clear hw3 hI2 o0' f0'
          obtain ⟨mm, -⟩ := (hI3.k _ hM).c 0 rfl
          have hIH := hide (ih.out (ord ++ [(m : Int)]) S w3 (by rw [hlen]; have := hkk.out; omega) hp2.out ⟨A2, c2, B, d, hdl.out, by rw [hlen]; exact hI3⟩)
          replace hlen := hide hlen
          clear hI3
          go_wp2_with fail
          refine hIH.out.mono ?_
          rintro e w4 ⟨rfl, A4, c4, B4, d4, hd4, hI4⟩
          replace hd4 := hide hd4
          clear mm hIH
          obtain ⟨S', hS'⟩ : ∃ x, moreS f n k (ord ++ [(m : Int)]) S = x := ⟨_, rfl⟩
          rw [hS'] at hI4 hnx hd4
          replace hS' := hide hS'
          obtain ⟨g4, rfl, -, -⟩ := hI4.ow.shape (by simp)
          have hcap4 := hI4.ow.cap
          rw [hlen.out] at hI4 hcap4
          obtain ⟨o4, fo4⟩ := hI4.bo.c 0 rfl
          go_upto_region 10 with fail
          have hI5 := (hI4.setO hE (.slice (some ⟨g4, 0, none⟩) ord.length c4)).cut rfl
          obtain ⟨w5, hw5⟩ : ∃ W : World, W = w4.setCell ⟨E.gO, 0, none⟩ (.slice (some ⟨g4, 0, none⟩) ord.length c4) := ⟨_, rfl⟩
          rw [← hw5] at hI5 ⊢
          clear hw5 hI4 o4 fo4
          have hml5 : m < (seenN n (ord ++ [(m : Int)])).length := by rw [seenN_len]; exact hlt
          obtain ⟨cc, hcr, hcc⟩ := hI5.us.cell_at (by decide) hml5
          have hcu : w5.cell? ⟨E.gU, m, none⟩ = some (.bool (seenN n (ord ++ [(m : Int)]))[m]) := by
            have hcr' : cc = [.bool (seenN n (ord ++ [(m : Int)]))[m]] := hcr
            subst hcr'
            have := hcc 0 _ rfl
            rwa [show Enc.sz Bool = 1 from rfl, Nat.mul_one, Nat.add_zero] at this
          have hfu := hI5.us.frozen m
          obtain ⟨s5, -⟩ := (hI5.k _ hS).c 0 rfl
          have hI6 := hI5.setU hE hlt (v := false) (T' := ord) hbk.out
          generalize (seenN n (ord ++ [(m : Int)]))[m] = vv at hcu
          clear hcr hcc hml5
          go_upto_region 11 with fail
          obtain ⟨w6, hw6⟩ : ∃ W : World, W = w5.setCell ⟨E.gU, m, none⟩ (.bool false) := ⟨_, rfl⟩
          rw [← hw6] at hI6 ⊢
          clear hw6 hI5 hcu hfu s5
          go_wp2_with fail
          (go_roundw; (case rel => exact ⟨m + 1, by omega, by go_num, by rw [hnx.out]; exact ⟨_, _, _, _, hd4.out, hI6⟩⟩); (case measure => simp [intOf]; omega))
        · rw [hmem] at hcu
          have hnx := hide (hin.out hmem)
          go_wp2_with fail
          (go_roundw; (case rel => exact ⟨m + 1, by omega, by go_num, by rw [hnx.out]; exact ⟨A, c, B, d, hdl.out, hI⟩⟩); (case measure => simp [intOf]; omega))
      · obtain rfl : m = n := by omega
        go_wp2_with fail
        go_end0
        exact ⟨rfl, A, c, B, d, hdl.out, hI⟩

end Go.Proofs.YtanioobepfllgaaDoor

namespace Go.Proofs.YtanioobepfllgaaDoor
open Go Go.RowKit Go.Bl

def latF (j : List Jb) (ch : Int) (mat : ByteArray) (o : List Int) : Int := lateR j ch (0, mat) o

theorem lateR_bd {j : List Jb} {ch : Int} (h : JOk j ch) : ∀ (o : List Int) (c : Int × ByteArray) (N : Int), (∀ i ∈ o, 0 ≤ i ∧ i < (j.length : Int)) → 0 ≤ c.1 ∧ c.1 ≤ N → lateR j ch c o ≤ (N + 200000 * o.length) * o.length
  | [], _, _, _, _ => by simp [lateR]
  | i :: r, c, N, hi, hc => by
    obtain ⟨q, hq⟩ := Int.eq_ofNat_of_zero_le (hi i (by simp)).1
    have hql : q < j.length := by have := (hi i (by simp)).2; omega
    have hb := h.bd _ (List.getElem_mem hql)
    have hch := h.chg
    have ej : jobAt j i = j[q] := by rw [hq]; exact jobAt_nat hql
    have h1 : 0 ≤ (doC c (jobAt j i) ch).1 ∧ (doC c (jobAt j i) ch).1 ≤ N + 200000 := by
      rw [ej]; unfold doC; simp only; split <;> omega
    have ih := lateR_bd h r (doC c (jobAt j i) ch) (N + 200000) (fun k hk => hi k (List.mem_cons_of_mem _ hk)) h1
    have hdue : 0 ≤ (jobAt j i).due := by rw [ej]; exact hb.2.2.1
    unfold lateR
    rw [List.length_cons]
    have e : (N + 200000 + 200000 * (r.length : Int)) = N + 200000 * ((r.length + 1 : Nat) : Int) := by push_cast; omega
    rw [e] at ih
    have e2 : (N + 200000 * ((r.length + 1 : Nat) : Int)) * ((r.length + 1 : Nat) : Int) = (N + 200000 * ((r.length + 1 : Nat) : Int)) * (r.length : Int) + (N + 200000 * ((r.length + 1 : Nat) : Int)) := by
      rw [show ((r.length + 1 : Nat) : Int) = (r.length : Int) + 1 by push_cast; rfl, Int.mul_add, Int.mul_one]
    rw [e2]
    generalize (N + 200000 * ((r.length + 1 : Nat) : Int)) * (r.length : Int) = X at *
    omega

set_option maxHeartbeats 2000000 in
set_option maxRecDepth 100000 in
theorem leastDo_any (E : Env) (hE : E.Ok) (j : List Jb) (ch : Int) (mat key : ByteArray) (J : Option Addr) (cj : Nat) (hok : JOk j ch) (hj7 : j.length ≤ 7) (gP gJ gC : Nat) (tP tJ tC : TypeId)
    (hP : (⟨gP, tP, [.string key, .string mat]⟩ : BoxV) ∈ E.C) (hJb : (⟨gJ, tJ, [.slice J j.length cj]⟩ : BoxV) ∈ E.C) (hCb : (⟨gC, tC, [.int .i64 ch]⟩ : BoxV) ∈ E.C) (hJ : Sl E.w0 0 J j)
    (w : World) (ord : List Int) (s : List Int × Int) (A : Option Addr) (c : Nat) (B : Option Addr) (d : Nat)
    (hdl : s.1.length ≤ d) (hI : Inv E j.length w ord ord (.slice A ord.length c) (.slice B s.1.length d) s.2 A c B s.1) (hol : ord.length = j.length) (hp : IsP j.length ord) :
    Calls Tryd.prog 46 #[.slice A ord.length c, .pointer (some ⟨gP, 0, none⟩), .pointer (some ⟨gJ, 0, none⟩), .pointer (some ⟨gC, 0, none⟩), .pointer (some ⟨E.gL, 0, none⟩), .pointer (some ⟨E.gB, 0, none⟩)] w fun e w' => e = .returned (.tuple #[]) ∧ InvE E j.length w' ord (stepO (latF j ch mat) s ord) := by
  have hjw : Sl w 0 J j := hJ.pure hI.gr
  have how := hI.ow.sl.mono (Nat.zero_le _)
  have ho7 : ord.length ≤ 7 := by omega
  have hin : Hid (∀ i ∈ ord, 0 ≤ i ∧ i < (j.length : Int)) := hp.bd
  obtain ⟨p1, -⟩ := (hI.k _ hP).c 1 rfl
  have hbJ := hI.k _ hJb
  have hbC := hI.k _ hCb
  replace hok := hide hok
  replace hdl := hide hdl
  replace hol := hide hol
  replace hp := hide hp
  go_enter Tryd.func46, Tryd.ntmps46
  go_upto_region 1 with fail
  obtain ⟨w7, hw7⟩ : ∃ x, x = (w).alloc (.cells [.int .i64 0, .string mat].toArray 70) := ⟨_, rfl⟩
  have hg7 : (w).grownBy w7 none := by rw [hw7]; exact gr_alloc (World.grownBy.refl _ _) _
  have hb7 : Box w7 (w).heap.size 70 [.int .i64 0, .string mat] := by rw [hw7]; exact Box.new _ _ _
  have hxs7 := hb7.lt
  rw [← hw7]
  clear hw7
  obtain ⟨x7, hx7⟩ : ∃ x, x = (w).heap.size := ⟨_, rfl⟩
  rw [← hx7] at hb7 hxs7 ⊢
  have hxl7 : (w).heap.size ≤ x7 := by omega
  clear hx7
  have hlow : w.heap.size ≤ x7 := hxl7
  clear p1
  go_wp2_with fail
  go_loopw [8, 16] (fun t i wr => ∃ m : Nat, m ≤ ord.length ∧ i = .int .i64 m ∧ t = .int .i64 (lateR j ch (0, mat) (ord.take m)) ∧ Box wr x7 70 [.int .i64 (clkC j ch (0, mat) (ord.take m)).1, .string (clkC j ch (0, mat) (ord.take m)).2] ∧ w.grownBy wr none) (fun _ i _ => ord.length - (intOf i).toNat)
  case atStart => exact ⟨0, Nat.zero_le _, rfl, by simp [lateR], by simpa [clkC] using hb7, hg7⟩
  case round =>
    clear hb7 hg7
    obtain ⟨m, hmk, rfl, rfl, hb0, hg⟩ := hrel
    by_cases hml : m < ord.length
    · obtain ⟨g2, o2, cx, rfl, _, hb2', rfl, hc⟩ := (how.pure hg).at_ (by decide) hml
      have r0 : _ := hc 0 _ rfl
      rw [show Enc.sz Int = 1 from rfl, Nat.mul_one, Nat.add_zero] at r0
      clear hc
      have hri := hin.out _ (List.getElem_mem hml)
      obtain ⟨x, hx⟩ := Int.eq_ofNat_of_zero_le hri.1
      have hxl : x < j.length := by omega
      have htk := take_snoc hml
      have hlt2 : Hid (lateR j ch (0, mat) (ord.take (m + 1)) = lateR j ch (0, mat) (ord.take m) + max 0 ((doC (clkC j ch (0, mat) (ord.take m)) j[x] ch).1 - j[x].due)) := by rw [Hid, htk, lateR_snoc, hx, jobAt_nat hxl]
      have hck2 : Hid (clkC j ch (0, mat) (ord.take (m + 1)) = doC (clkC j ch (0, mat) (ord.take m)) j[x] ch) := by rw [Hid, htk, clkC_snoc, hx, jobAt_nat hxl]
      have hbd := clkC_bd hok.out (ord.take m) (fun i hi => hin.out i (List.mem_of_mem_take hi)) (0, mat) (N := 0) (by simp)
      have hlb := lateR_bd hok.out (ord.take m) (0, mat) 0 (fun i hi => hin.out i (List.mem_of_mem_take hi)) (by simp)
      have hln := lateR_nn j ch (0, mat) (ord.take m)
      rw [List.length_take, Nat.min_eq_left hmk] at hbd hlb
      have hlb2 : lateR j ch (0, mat) (ord.take m) ≤ 100000000 := by
        have h7 : (m : Int) ≤ 7 := by omega
        have : ((0 : Int) + 200000 * (m : Int)) * (m : Int) ≤ 1400000 * 7 := Int.mul_le_mul (by omega) h7 (by omega) (by omega)
        omega
      clear hlb
      obtain ⟨gj, oj, cx, rfl, _, hbj, rfl, hc⟩ := (hjw.pure hg).at_ (by decide) hxl
      have hjb := hok.out.bd _ (List.getElem_mem hxl)
      have hchg := hok.out.chg
      rw [hx] at r0
      clear htk hri hx
      generalize hcl : clkC j ch (0, mat) (ord.take m) = cl at *
      generalize hlr : lateR j ch (0, mat) (ord.take m) = LR at *
      clear hcl hlr
      obtain ⟨cle, clm⟩ := cl
      have xb := hbd.1
      have xb2 := hbd.2
      simp only at xb xb2
      have j0 : wr.cell? ⟨gj, oj + x * 4, none⟩ = some (.string j[x].key) := hc 0 _ rfl
      have j1 : wr.cell? ⟨gj, oj + x * 4 + 1, none⟩ = some (.string j[x].mat) := hc 1 _ rfl
      have j2 : wr.cell? ⟨gj, oj + x * 4 + 2, none⟩ = some (.int .i64 j[x].min) := hc 2 _ rfl
      have j3 : wr.cell? ⟨gj, oj + x * 4 + 3, none⟩ = some (.int .i64 j[x].due) := hc 3 _ rfl
      clear hc
      have hzb : 0 ≤ (doC (cle, clm) j[x] ch).1 ∧ (doC (cle, clm) j[x] ch).1 ≤ 100000000 := by unfold doC; simp only; split <;> omega
      generalize hY : j[x] = Y at *
      have hcd := clockDo_any cle clm Y ch
      obtain ⟨z, hz⟩ : ∃ z, z = doC (cle, clm) Y ch := ⟨_, rfl⟩
      rw [← hz] at hcd hck2 hlt2 hzb
      clear hz
      have hx0 : (0 : Int) ≤ (x : Int) ∧ (x : Int) < j.length := by omega
      obtain ⟨bj0, -⟩ := (hbJ.pure hg).c 0 rfl
      obtain ⟨bc0, -⟩ := (hbC.pure hg).c 0 rfl
      go_upto_region 4 with fail
      refine wp_region_tree (fun wx => wr.grownBy wx none) [1, 1, 2, 2, 1, 1, 0, 0] (.bl 0 (.bl 1 (.bl 2 (.bl 3 (.bl 4 (.bl 5 (.ef 6 (.ef 7 .done)))))))) (by kernel_rfl) (by kernel_rfl) (gr_drew (World.grownBy.refl _ _)) ?_
      obtain ⟨W1, hW1⟩ : ∃ x, x = (wr).drew := ⟨_, rfl⟩
      rw [← hW1]
      have hgW1 : (wr).grownBy W1 none := by rw [hW1]; exact gr_drew (World.grownBy.refl _ _)
      clear hW1
      refine tree_b rfl rfl rfl rfl _ rfl (by simp) (fun K hK => ?_)
      apply Exists.intro
      refine ⟨fun wq hq K' hK' => ?_, ?_⟩
      · have jj0 := hq.k j0
        have jj1 := hq.k j1
        have jj2 := hq.k j2
        have jj3 := hq.k j3
        have jj4 := hq.k bj0
        have jj5 := hq.k bc0
        have ⟨bb0, _⟩ := (hb0.pure hq).c 0 rfl
        have ⟨bb1, _⟩ := (hb0.pure hq).c 1 rfl
        go_wp2_with fail
        exact hK'
      go_simp
      refine hK _ ?_
      clear hK K
      refine tree_b rfl rfl rfl rfl _ rfl (by simp) (fun K hK => ?_)
      apply Exists.intro
      refine ⟨fun wq hq K' hK' => ?_, ?_⟩
      · have jj0 := hq.k j0
        have jj1 := hq.k j1
        have jj2 := hq.k j2
        have jj3 := hq.k j3
        have jj4 := hq.k bj0
        have jj5 := hq.k bc0
        have ⟨bb0, _⟩ := (hb0.pure hq).c 0 rfl
        have ⟨bb1, _⟩ := (hb0.pure hq).c 1 rfl
        go_wp2_with fail
        exact hK'
      go_simp
      refine hK _ ?_
      clear hK K
      refine tree_p rfl rfl rfl rfl _ rfl (by simp) (fun K hK => ?_)
      apply Exists.intro
      refine ⟨fun wq K' hK' => ?_, ?_⟩
      · go_wp2_with fail
        exact hK'
      go_simp
      refine hK _ ?_
      clear hK K
      refine tree_p rfl rfl rfl rfl _ rfl (by simp) (fun K hK => ?_)
      apply Exists.intro
      refine ⟨fun wq K' hK' => ?_, ?_⟩
      · go_wp2_with fail
        exact hK'
      go_simp
      refine hK _ ?_
      clear hK K
      refine tree_b rfl rfl rfl rfl _ rfl (by simp) (fun K hK => ?_)
      apply Exists.intro
      refine ⟨fun wq hq K' hK' => ?_, ?_⟩
      · have jj0 := hq.k j0
        have jj1 := hq.k j1
        have jj2 := hq.k j2
        have jj3 := hq.k j3
        have jj4 := hq.k bj0
        have jj5 := hq.k bc0
        have ⟨bb0, _⟩ := (hb0.pure hq).c 0 rfl
        have ⟨bb1, _⟩ := (hb0.pure hq).c 1 rfl
        go_wp2_with fail
        exact hK'
      go_simp
      refine hK _ ?_
      clear hK K
      refine tree_b rfl rfl rfl rfl _ rfl (by simp) (fun K hK => ?_)
      apply Exists.intro
      refine ⟨fun wq hq K' hK' => ?_, ?_⟩
      · have jj0 := hq.k j0
        have jj1 := hq.k j1
        have jj2 := hq.k j2
        have jj3 := hq.k j3
        have jj4 := hq.k bj0
        have jj5 := hq.k bc0
        have ⟨bb0, _⟩ := (hb0.pure hq).c 0 rfl
        have ⟨bb1, _⟩ := (hb0.pure hq).c 1 rfl
        go_wp2_with fail
        exact hK'
      go_simp
      refine hK _ ?_
      clear hK K
      refine tree_e0 (by kernel_rfl) rfl rfl (fun K hK => ?_)
      go_wp2_with fail
      refine (hcd W1 ?_ ?_ ?_).mono ?_
      · omega
      · omega
      · omega
      rintro e w6 ⟨rfl, hg6⟩
      have hg6w := gr_trans hgW1 hg6
      go_wp2_with fail
      try go_simp
      refine hK _ _ trivial ?_
      clear hK K
      refine tree_e0 (by kernel_rfl) rfl rfl (fun K hK => ?_)
      have hb6 := hb0.pure hg6w
      obtain ⟨y0, z0⟩ := hb6.c 0 rfl
      obtain ⟨y1, z1⟩ := hb6.c 1 rfl
      go_wp2_with fail
      try go_simp
      refine hK _ _ trivial ?_
      clear hK K
      refine tree_done ?_
      obtain ⟨w8, hw8⟩ : ∃ x, x = (w6.setCell ⟨x7, 0, none⟩ (.int .i64 z.1)).setCell ⟨x7, 1, none⟩ (.string z.2) := ⟨_, rfl⟩
      have hb8 : Box w8 x7 70 [.int .i64 z.1, .string z.2] := by rw [hw8]; exact (hb6.set_ 0 _ (by simp)).set_ 1 _ (by simp)
      have hg8 : w.grownBy w8 none := by rw [hw8]; exact gr_set (gr_set (gr_trans hg hg6w) (.inr hlow) _) (.inr hlow) _
      have hj8 := hjw.pure hg8
      obtain ⟨gj', oj', cx, ej, _, _, rfl, hc⟩ := hj8.at_ (by decide) hxl
      cases ej
      have j3' : w8.cell? ⟨gj, oj + x * 4 + 3, none⟩ = some (.int .i64 Y.due) := by rw [← hY]; exact hc 3 _ rfl
      clear hc
      obtain ⟨bj8, -⟩ := (hbJ.pure hg8).c 0 rfl
      rw [← hw8]
      clear hw8 y0 y1 z0 z1 hb6 hg6w hg6 hgW1 hcd j0 j1 j2 j3 r0 hb0 hg hY xb xb2 hbd bj0 bc0
      obtain ⟨y0, z0⟩ := hb8.c 0 rfl
      obtain ⟨y1, z1⟩ := hb8.c 1 rfl
      go_upto_region 5 with fail
      go_region
      all_goals
        go_wp2_with fail
        (go_roundw; (case rel => exact ⟨m + 1, by omega, by go_num, by rw [hlt2.out], by rw [hck2.out]; exact hb8.pure (gr_drew (World.grownBy.refl _ _)), hg8.t (gr_drew (World.grownBy.refl _ _))⟩); (case measure => simp [intOf]; omega))
    · obtain rfl : m = ord.length := by omega
      rw [List.take_length]
      clear hb0
      have hIw := hI.pure hg
      obtain ⟨LV, hLV⟩ : ∃ x, lateR j ch (0, mat) ord = x := ⟨_, rfl⟩
      rw [hLV]
      have hst : Hid (stepO (latF j ch mat) s ord = if s.2 < 0 ∨ LV < s.2 then (ord, LV) else s) := by rw [Hid]; unfold stepO latF; rw [hLV]
      replace hLV := hide hLV
      obtain ⟨l0, fl0⟩ := hIw.bl.c 0 rfl
      by_cases hc : s.2 < 0 ∨ LV < s.2
      · have hsp : Hid (stepO (latF j ch mat) s ord = (ord, LV)) := by rw [Hid, hst.out, if_pos hc]
        have hCl := hide (cloneInt_any A c ord wr (how.pure hg) (by omega))
        by_cases h1 : s.2 < 0
        · have hb1 : decide (s.2 < 0) = true := decide_eq_true h1
          clear hc h1 hst
          go_wp2_with fail
          refine hCl.out.mono ?_
          rintro e w9 ⟨A9, c9, rfl, hO9, hg9⟩
          have hI9 := (hIw.pure hg9).best (hO9.sl.mono (Nat.zero_le _)) (fun g e => by
            have h1 := hO9.blk_lt e
            refine ⟨fun q => ?_, ?_, h1.2⟩
            · have h2 := (hIw.ow.blk_lt q).2; omega
            · have := hIw.sz; omega)
          have hc9 := hide hO9.cap
          obtain ⟨b0, fb0⟩ := hI9.bb.c 0 rfl
          obtain ⟨l9, fl9⟩ := hI9.bl.c 0 rfl
          have hIz := (hI9.setB hE (.slice A9 ord.length c9)).setL hE LV
          have hne9 := hE.lb
          clear l0 fl0 hIw
          go_wp2_with fail
          go_end0
          exact ⟨rfl, by rw [hsp.out]; exact ⟨A, c, A9, c9, hc9.out, hIz⟩⟩
        · have hb1 : decide (s.2 < 0) = false := decide_eq_false h1
          have hb2 : decide (LV < s.2) = true := decide_eq_true (hc.resolve_left h1)
          clear hc h1 hst
          go_wp2_with fail
          refine hCl.out.mono ?_
          rintro e w9 ⟨A9, c9, rfl, hO9, hg9⟩
          have hI9 := (hIw.pure hg9).best (hO9.sl.mono (Nat.zero_le _)) (fun g e => by
            have h1 := hO9.blk_lt e
            refine ⟨fun q => ?_, ?_, h1.2⟩
            · have h2 := (hIw.ow.blk_lt q).2; omega
            · have := hIw.sz; omega)
          have hc9 := hide hO9.cap
          obtain ⟨b0, fb0⟩ := hI9.bb.c 0 rfl
          obtain ⟨l9, fl9⟩ := hI9.bl.c 0 rfl
          have hIz := (hI9.setB hE (.slice A9 ord.length c9)).setL hE LV
          have hne9 := hE.lb
          clear l0 fl0 hIw
          go_wp2_with fail
          go_end0
          exact ⟨rfl, by rw [hsp.out]; exact ⟨A, c, A9, c9, hc9.out, hIz⟩⟩
      · have hsp : Hid (stepO (latF j ch mat) s ord = s) := by rw [Hid, hst.out, if_neg hc]
        have hb1 : decide (s.2 < 0) = false := decide_eq_false (fun h => hc (.inl h))
        have hb2 : decide (LV < s.2) = false := decide_eq_false (fun h => hc (.inr h))
        clear hc hst
        go_wp2_with fail
        go_end0
        exact ⟨rfl, by rw [hsp.out]; exact ⟨A, c, B, d, hdl.out, hIw⟩⟩

end Go.Proofs.YtanioobepfllgaaDoor

namespace Go.Proofs.YtanioobepfllgaaDoor
open Go Go.RowKit Go.Bl

set_option maxHeartbeats 2000000 in
set_option maxRecDepth 100000 in
theorem orders_any (w0 : World) (j : List Jb) (ch : Int) (mat key : ByteArray) (J : Option Addr) (cj : Nat) (hok : JOk j ch) (hj7 : j.length ≤ 7) (gP gJ gC gL gB : Nat) (tP tJ tC tL tB : TypeId)
    (w : World) (hg0 : w0.grownBy w none)
    (hP : Box w gP tP [.string key, .string mat]) (hJb : Box w gJ tJ [.slice J j.length cj]) (hCb : Box w gC tC [.int .i64 ch]) (hJ : Sl w0 0 J j)
    (hL : Box w gL tL [.int .i64 (-1)]) (hB : Box w gB tB [.slice none 0 0]) (hLB : gL ≠ gB) (hl : w0.heap.size ≤ gL) (hb : w0.heap.size ≤ gB)
    (hd : gP ≠ gL ∧ gP ≠ gB ∧ gJ ≠ gL ∧ gJ ≠ gB ∧ gC ≠ gL ∧ gC ≠ gB) :
    Calls Tryd.prog 45 #[.int .i64 j.length, .func (.func 46) #[] #[.pointer (some ⟨gP, 0, none⟩), .pointer (some ⟨gJ, 0, none⟩), .pointer (some ⟨gC, 0, none⟩), .pointer (some ⟨gL, 0, none⟩), .pointer (some ⟨gB, 0, none⟩)]] w fun e w' => e = .returned (.tuple #[]) ∧ w0.grownBy w' none ∧
      Box w' gL tL [.int .i64 (leastL (latF j ch mat) j.length).2] ∧ ∃ B d, (leastL (latF j ch mat) j.length).1.length ≤ d ∧ Box w' gB tB [.slice B (leastL (latF j ch mat) j.length).1.length d] ∧ Sl w' 0 B (leastL (latF j ch mat) j.length).1 := by
  have hmf : ∀ (fn : Fn) (first cap : Array Value) (w : World), (Instr.makeFunc fn first cap).run Tryd.prog w = .ok (.func fn first cap) w := fun _ _ _ _ => rfl
  go_enter Tryd.func45, Tryd.ntmps45
  go_upto_region 2 with fail
  obtain ⟨w2, hw2⟩ : ∃ x, x = (w).alloc (.cells [.int .i64 (j.length : Int)].toArray 3) := ⟨_, rfl⟩
  have hg2 : (w).grownBy w2 none := by rw [hw2]; exact gr_alloc (World.grownBy.refl _ _) _
  have hb2 : Box w2 (w).heap.size 3 [.int .i64 (j.length : Int)] := by rw [hw2]; exact Box.new _ _ _
  have hz2 : w2.heap.size = (w).heap.size + 1 := by rw [hw2]; simp
  rw [← hw2]
  clear hw2
  obtain ⟨x2, hx2⟩ : ∃ x, x = (w).heap.size := ⟨_, rfl⟩
  rw [← hx2] at hb2 hz2 ⊢
  have hxl2 : (w).heap.size ≤ x2 := by omega
  have hy2 : x2 < w2.heap.size := by omega
  clear hx2
  rw [← hz2]
  clear hz2
  obtain ⟨w3, hw3⟩ : ∃ x, x = (w2).alloc (.cells [.func (.func 46) #[] #[.pointer (some ⟨gP, 0, none⟩), .pointer (some ⟨gJ, 0, none⟩), .pointer (some ⟨gC, 0, none⟩), .pointer (some ⟨gL, 0, none⟩), .pointer (some ⟨gB, 0, none⟩)]].toArray 84) := ⟨_, rfl⟩
  have hg3 : (w2).grownBy w3 none := by rw [hw3]; exact gr_alloc (World.grownBy.refl _ _) _
  have hb3 : Box w3 (w2).heap.size 84 [.func (.func 46) #[] #[.pointer (some ⟨gP, 0, none⟩), .pointer (some ⟨gJ, 0, none⟩), .pointer (some ⟨gC, 0, none⟩), .pointer (some ⟨gL, 0, none⟩), .pointer (some ⟨gB, 0, none⟩)]] := by rw [hw3]; exact Box.new _ _ _
  have hz3 : w3.heap.size = (w2).heap.size + 1 := by rw [hw3]; simp
  rw [← hw3]
  clear hw3
  obtain ⟨x3, hx3⟩ : ∃ x, x = (w2).heap.size := ⟨_, rfl⟩
  rw [← hx3] at hb3 hz3 ⊢
  have hxl3 : (w2).heap.size ≤ x3 := by omega
  have hy3 : x3 < w3.heap.size := by omega
  clear hx3
  rw [← hz3]
  clear hz3
  obtain ⟨w4, hw4⟩ : ∃ x, x = (w3).alloc (.cells [.slice none 0 0].toArray 22) := ⟨_, rfl⟩
  have hg4 : (w3).grownBy w4 none := by rw [hw4]; exact gr_alloc (World.grownBy.refl _ _) _
  have hb4 : Box w4 (w3).heap.size 22 [.slice none 0 0] := by rw [hw4]; exact Box.new _ _ _
  have hz4 : w4.heap.size = (w3).heap.size + 1 := by rw [hw4]; simp
  rw [← hw4]
  clear hw4
  obtain ⟨x4, hx4⟩ : ∃ x, x = (w3).heap.size := ⟨_, rfl⟩
  rw [← hx4] at hb4 hz4 ⊢
  have hxl4 : (w3).heap.size ≤ x4 := by omega
  have hy4 : x4 < w4.heap.size := by omega
  clear hx4
  clear hz4
  obtain ⟨i0, hi, hz, hi1, hi2⟩ := info_parts info_boolF
  obtain ⟨w5, hrun, hoS, hg5⟩ := run_makeOwn (P := Tryd.prog) w4 65 4 i0 _ false Tryd.underlying65 hi hz hi1 rfl rfl .i64 .i64 j.length (by rw [hi2]; omega) (by simp [maxLen]; omega)
  clear hi hz hi1 hi2 i0
  rw [← seenN_nil] at hoS
  obtain ⟨gs, hgs⟩ : ∃ g, g = w4.heap.size := ⟨_, rfl⟩
  rw [← hgs] at hrun hoS
  have hgs0 : w4.heap.size ≤ gs := by omega
  clear hgs
  have hgs1 : gs < w5.heap.size := (hoS.blk_lt (g := gs) rfl).2
  replace hoS := hoS.lower (Nat.zero_le _)
  obtain ⟨c2, -⟩ := (hb2.pure (hg3.t hg4)).c 0 rfl
  go_upto_region 3 with fail
  clear hrun c2
  obtain ⟨w6, hw6⟩ : ∃ x, x = (w5).alloc (.cells [.slice (some ⟨gs, 0, none⟩) j.length j.length].toArray 65) := ⟨_, rfl⟩
  have hg6 : (w5).grownBy w6 none := by rw [hw6]; exact gr_alloc (World.grownBy.refl _ _) _
  have hb6 : Box w6 (w5).heap.size 65 [.slice (some ⟨gs, 0, none⟩) j.length j.length] := by rw [hw6]; exact Box.new _ _ _
  have hz6 : w6.heap.size = (w5).heap.size + 1 := by rw [hw6]; simp
  rw [← hw6]
  clear hw6
  obtain ⟨x6, hx6⟩ : ∃ x, x = (w5).heap.size := ⟨_, rfl⟩
  rw [← hx6] at hb6 hz6 ⊢
  have hxl6 : (w5).heap.size ≤ x6 := by omega
  have hy6 : x6 < w6.heap.size := by omega
  clear hx6
  clear hz6
  go_upto_region 4 with fail
  obtain ⟨w00, hw00⟩ : ∃ x, x = (w6).alloc (.cells [.nilFunc].toArray 1) := ⟨_, rfl⟩
  have hg00 : (w6).grownBy w00 none := by rw [hw00]; exact gr_alloc (World.grownBy.refl _ _) _
  have hb00 : Box w00 (w6).heap.size 1 [.nilFunc] := by rw [hw00]; exact Box.new _ _ _
  have hz00 : w00.heap.size = (w6).heap.size + 1 := by rw [hw00]; simp
  rw [← hw00]
  clear hw00
  obtain ⟨x00, hx00⟩ : ∃ x, x = (w6).heap.size := ⟨_, rfl⟩
  rw [← hx00] at hb00 hz00 ⊢
  have hxl00 : (w6).heap.size ≤ x00 := by omega
  have hy00 : x00 < w00.heap.size := by omega
  clear hx00
  clear hz00
  obtain ⟨m0, f0⟩ := hb00.c 0 rfl
  have hsf : ∀ (a : Addr) (fn : Fn) (first cap : Array Value) (m : Mode) (w : World), (store a (.func fn first cap) m).run Tryd.prog w = stored Tryd.prog w a (.func fn first cap) m := fun a fn first cap m w => run_store _ w a _ m rfl
  go_upto_region 5 with fail
  clear m0 f0 hsf
  obtain ⟨w7, hw7⟩ : ∃ x, x = w00.setCell ⟨x00, 0, none⟩ (.func (.func 62) #[] #[.pointer (some ⟨x4, 0, none⟩), .pointer (some ⟨x2, 0, none⟩), .pointer (some ⟨x3, 0, none⟩), .pointer (some ⟨x6, 0, none⟩), .pointer (some ⟨x00, 0, none⟩)]) := ⟨_, rfl⟩
  rw [← hw7]
  have hb7 := hb00.set_ 0 (.func (.func 62) #[] #[.pointer (some ⟨x4, 0, none⟩), .pointer (some ⟨x2, 0, none⟩), .pointer (some ⟨x3, 0, none⟩), .pointer (some ⟨x6, 0, none⟩), .pointer (some ⟨x00, 0, none⟩)]) (by simp)
  rw [← hw7] at hb7
  have hg7 : w6.grownBy w7 none := by rw [hw7]; exact gr_set hg00 (.inr hxl00) _
  have hy7 : w00.heap.size ≤ w7.heap.size := by rw [hw7]; simp
  clear hw7
  have h57 := hg6.t hg7
  have h47 := hg5.t h57
  have h37 := hg4.t h47
  have h27 := hg3.t h37
  have h17 := hg2.t h27
  have l1 := hP.lt
  have l2 := hJb.lt
  have l3 := hCb.lt
  have l4 := hL.lt
  have l5 := hB.lt
  have l6 := hg5.size
  have l7 := hg0.size
  obtain ⟨E, hE⟩ : ∃ E : Env, E = ⟨w0, w7.heap.size, [⟨x2, 3, [.int .i64 (j.length : Int)]⟩, ⟨x3, 84, [.func (.func 46) #[] #[.pointer (some ⟨gP, 0, none⟩), .pointer (some ⟨gJ, 0, none⟩), .pointer (some ⟨gC, 0, none⟩), .pointer (some ⟨gL, 0, none⟩), .pointer (some ⟨gB, 0, none⟩)]]⟩, ⟨x6, 65, [.slice (some ⟨gs, 0, none⟩) j.length j.length]⟩, ⟨x00, 1, [.func (.func 62) #[] #[.pointer (some ⟨x4, 0, none⟩), .pointer (some ⟨x2, 0, none⟩), .pointer (some ⟨x3, 0, none⟩), .pointer (some ⟨x6, 0, none⟩), .pointer (some ⟨x00, 0, none⟩)]]⟩,
    ⟨gP, tP, [.string key, .string mat]⟩, ⟨gJ, tJ, [.slice J j.length cj]⟩, ⟨gC, tC, [.int .i64 ch]⟩], x4, gs, gL, gB, 22, tL, tB⟩ := ⟨_, rfl⟩
  have hOk : E.Ok := by
    rw [hE]
    refine ⟨fun b hb => ?_, ?_, ?_, ?_, ?_, ?_, ?_, ?_, ?_, ?_, ?_⟩
    · simp only [List.mem_cons, List.not_mem_nil, or_false] at hb
      rcases hb with rfl | rfl | rfl | rfl | rfl | rfl | rfl <;> (simp only; omega)
    all_goals (simp only; omega)
  have hInv : InvE E j.length w7 [] ([], -1) := by
    refine ⟨none, 0, none, 0, Nat.le_refl _, ⟨fun b hb => ?_, ?_, Own.nil _ _ _, ?_, ?_, ?_, Sl.nil, fun g e => (by cases e), ?_, ?_⟩⟩
    · rw [hE] at hb
      simp only [List.mem_cons, List.not_mem_nil, or_false] at hb
      rcases hb with rfl | rfl | rfl | rfl | rfl | rfl | rfl
      · exact hb2.pure h27
      · exact hb3.pure h37
      · exact hb6.pure hg7
      · exact hb7
      · exact hP.pure h17
      · exact hJb.pure h17
      · exact hCb.pure h17
    · rw [hE]; exact hb4.pure h47
    · rw [hE]; exact hoS.pure h57
    · rw [hE]; exact hL.pure h17
    · rw [hE]; exact hB.pure h17
    · rw [hE]; exact gr_trans hg0 h17
    · rw [hE]; exact Nat.le_refl _
  have hM := more_any E hOk j.length hj7 (latF j ch mat) x2 x3 x6 x00 gP gJ gC 3 84 65 1 (by rw [hE]; simp) (by rw [hE]; simp) (by rw [hE]; simp) (by rw [hE]; simp)
    (fun wr ord s A c B d hdl hI hl hp => leastDo_any E hOk j ch mat key J cj hok hj7 gP gJ gC tP tJ tC (by rw [hE]; simp) (by rw [hE]; simp) (by rw [hE]; simp) (by rw [hE]; exact hJ) wr ord s A c B d hdl hI hl hp) j.length [] ([], -1) w7 (by simp) ⟨List.nodup_nil, by simp⟩ hInv
  clear hInv hOk
  rw [hE] at hM
  clear hE
  obtain ⟨m7, -⟩ := hb7.c 0 rfl
  go_wp2_with fail
  refine hM.mono ?_
  rintro e w8 ⟨rfl, A, c, B, d, hdl, hI⟩
  go_wp2_with fail
  go_end0
  exact ⟨rfl, hI.gr, hI.bl, B, d, hdl, hI.bb, hI.sb⟩

set_option maxHeartbeats 2000000 in
set_option maxRecDepth 100000 in
theorem leastLate_any (key mat : ByteArray) (J : Option Addr) (cj : Nat) (j : List Jb) (ch : Int) (w : World) (hJ : Sl w 0 J j) (hF : farmF [⟨key, mat⟩] j = 0) (hc : spanF ch 0 100000 = 0) (hj7 : j.length ≤ 7) :
    Calls Tryd.prog 18 #[.agg #[.string key, .string mat], .slice J j.length cj, .int .i64 ch] w fun e w' => ∃ B d, e = .returned (.tuple #[.slice B (leastL (latF j ch mat) j.length).1.length d, .int .i64 (leastL (latF j ch mat) j.length).2, .int .i64 0]) ∧ (leastL (latF j ch mat) j.length).1.length ≤ d ∧
      Sl w' 0 B (leastL (latF j ch mat) j.length).1 ∧ w.grownBy w' none := by
  have hmf : ∀ (fn : Fn) (first cap : Array Value) (w : World), (Instr.makeFunc fn first cap).run Tryd.prog w = .ok (.func fn first cap) w := fun _ _ _ _ => rfl
  have hok := jok_of hF hc
  have hout : outB ch 0 100000 = false := by
    rw [spanF_outB] at hc
    rcases h : outB ch 0 100000 with _ | _
    · rfl
    · rw [h] at hc; cases hc
  replace hok := hide hok
  clear hc
  go_enter Tryd.func18, Tryd.ntmps18
  go_upto_region 1 with fail
  obtain ⟨w3, hw3⟩ : ∃ x, x = (w).alloc (.cells [.string key, .string mat].toArray 47) := ⟨_, rfl⟩
  have hg3 : (w).grownBy w3 none := by rw [hw3]; exact gr_alloc (World.grownBy.refl _ _) _
  have hb3 : Box w3 (w).heap.size 47 [.string key, .string mat] := by rw [hw3]; exact Box.new _ _ _
  have hz3 : w3.heap.size = (w).heap.size + 1 := by rw [hw3]; simp
  rw [← hw3]
  clear hw3
  obtain ⟨x3, hx3⟩ : ∃ x, x = (w).heap.size := ⟨_, rfl⟩
  rw [← hx3] at hb3 hz3 ⊢
  have hxl3 : (w).heap.size ≤ x3 := by omega
  have hy3 : x3 < w3.heap.size := by omega
  clear hx3
  rw [← hz3]
  clear hz3
  obtain ⟨w4, hw4⟩ : ∃ x, x = (w3).alloc (.cells [.slice J j.length cj].toArray 28) := ⟨_, rfl⟩
  have hg4 : (w3).grownBy w4 none := by rw [hw4]; exact gr_alloc (World.grownBy.refl _ _) _
  have hb4 : Box w4 (w3).heap.size 28 [.slice J j.length cj] := by rw [hw4]; exact Box.new _ _ _
  have hz4 : w4.heap.size = (w3).heap.size + 1 := by rw [hw4]; simp
  rw [← hw4]
  clear hw4
  obtain ⟨x4, hx4⟩ : ∃ x, x = (w3).heap.size := ⟨_, rfl⟩
  rw [← hx4] at hb4 hz4 ⊢
  have hxl4 : (w3).heap.size ≤ x4 := by omega
  have hy4 : x4 < w4.heap.size := by omega
  clear hx4
  rw [← hz4]
  clear hz4
  obtain ⟨w5, hw5⟩ : ∃ x, x = (w4).alloc (.cells [.int .i64 ch].toArray 3) := ⟨_, rfl⟩
  have hg5 : (w4).grownBy w5 none := by rw [hw5]; exact gr_alloc (World.grownBy.refl _ _) _
  have hb5 : Box w5 (w4).heap.size 3 [.int .i64 ch] := by rw [hw5]; exact Box.new _ _ _
  have hz5 : w5.heap.size = (w4).heap.size + 1 := by rw [hw5]; simp
  rw [← hw5]
  clear hw5
  obtain ⟨x5, hx5⟩ : ∃ x, x = (w4).heap.size := ⟨_, rfl⟩
  rw [← hx5] at hb5 hz5 ⊢
  have hxl5 : (w4).heap.size ≤ x5 := by omega
  have hy5 : x5 < w5.heap.size := by omega
  clear hx5
  clear hz5
  have h35 := hg4.t hg5
  have h15 := hg3.t h35
  have hP := hb3.pure h35
  have hJb := hb4.pure hg5
  obtain ⟨p0, -⟩ := hP.c 0 rfl
  obtain ⟨p1, -⟩ := hP.c 1 rfl
  obtain ⟨j0, -⟩ := (hJb.pure (gr_alloc (World.grownBy.refl w5 none) (.cells #[.string key, .string mat] 47))).c 0 rfl
  have hs1 : Sl (w5.alloc (.cells #[.string key, .string mat] 47)) 0 (some ⟨w5.heap.size, 0, none⟩) [(⟨key, mat⟩ : Prn)] := sl_oneAt w5 0 [.string key, .string mat] _ _ _ rfl (Nat.zero_le _) rfl
  have hga := gr_alloc (World.grownBy.refl w5 none) (.cells #[.string key, .string mat] 47)
  have hf := fault_any _ 1 [⟨key, mat⟩] J cj j _ hs1 (hJ.pure (h15.t hga))
  rw [hF] at hf
  clear hs1 hF
  obtain ⟨w6, hw6⟩ : ∃ x, x = w5.alloc (.cells #[.string key, .string mat] 47) := ⟨_, rfl⟩
  rw [← hw6] at hf hga
  replace hw6 := hide hw6
  go_wp2_with fail
  rw [← hw6.out]
  clear hw6 p0 p1 j0
  refine hf.mono ?_
  rintro e w7 ⟨rfl, hg7⟩
  have h57 := hga.t hg7
  have h17 := h15.t h57
  clear hf hga
  obtain ⟨j0, -⟩ := (hJb.pure h57).c 0 rfl
  obtain ⟨c0, -⟩ := (hb5.pure h57).c 0 rfl
  have l7 := h17.size
  go_upto_region 8 with (go_at_call 29; refine (isChange_any _ _).mono ?_; rintro _ _ ⟨rfl, rfl⟩; rw [hout])
  go_upto_region 10 with fail
  clear j0 c0
  obtain ⟨w8, hw8⟩ : ∃ x, x = (w7).alloc (.cells [.slice none 0 0].toArray 22) := ⟨_, rfl⟩
  have hg8 : (w7).grownBy w8 none := by rw [hw8]; exact gr_alloc (World.grownBy.refl _ _) _
  have hb8 : Box w8 (w7).heap.size 22 [.slice none 0 0] := by rw [hw8]; exact Box.new _ _ _
  have hz8 : w8.heap.size = (w7).heap.size + 1 := by rw [hw8]; simp
  rw [← hw8]
  clear hw8
  obtain ⟨x8, hx8⟩ : ∃ x, x = (w7).heap.size := ⟨_, rfl⟩
  rw [← hx8] at hb8 hz8 ⊢
  have hxl8 : (w7).heap.size ≤ x8 := by omega
  have hy8 : x8 < w8.heap.size := by omega
  clear hx8
  rw [← hz8]
  clear hz8
  obtain ⟨w9, hw9⟩ : ∃ x, x = (w8).alloc (.cells [.int .i64 (-1)].toArray 3) := ⟨_, rfl⟩
  have hg9 : (w8).grownBy w9 none := by rw [hw9]; exact gr_alloc (World.grownBy.refl _ _) _
  have hb9 : Box w9 (w8).heap.size 3 [.int .i64 (-1)] := by rw [hw9]; exact Box.new _ _ _
  have hz9 : w9.heap.size = (w8).heap.size + 1 := by rw [hw9]; simp
  rw [← hw9]
  clear hw9
  obtain ⟨x9, hx9⟩ : ∃ x, x = (w8).heap.size := ⟨_, rfl⟩
  rw [← hx9] at hb9 hz9 ⊢
  have hxl9 : (w8).heap.size ≤ x9 := by omega
  have hy9 : x9 < w9.heap.size := by omega
  clear hx9
  clear hz9
  have h59 := h57.t (hg8.t hg9)
  have h19 := h15.t h59
  have hJ9 := hJb.pure h59
  obtain ⟨j0, -⟩ := hJ9.c 0 rfl
  have l57 := h57.size
  have hO := orders_any w j ch mat key J cj hok.out hj7 x3 x4 x5 x9 x8 _ _ _ _ _ w9 h19 (hP.pure h59) hJ9 (hb5.pure h59) hJ hb9 (hb8.pure hg9) (by omega) (by omega) (by omega) (by omega)
  obtain ⟨LL, hLL⟩ : ∃ x, leastL (latF j ch mat) j.length = x := ⟨_, rfl⟩
  rw [hLL] at hO
  replace hLL := hide hLL
  go_wp2_with fail
  refine hO.mono ?_
  rintro e wz ⟨rfl, hgz, hbl, B, d, hdl, hbb, hsb⟩
  replace hdl := hide hdl
  clear j0 hO
  obtain ⟨a0, -⟩ := hbl.c 0 rfl
  obtain ⟨a1, -⟩ := hbb.c 0 rfl
  go_wp2_with fail
  go_quiet (fail)
  go_wp2_with fail
  refine bodyPost_ret (v := .tuple #[.slice B LL.1.length d, .int .i64 LL.2, .int .i64 0]) (by simp [results, Tryd.results18, go_sem]) rfl ⟨B, d, by rw [hLL.out], by rw [hLL.out]; exact hdl.out, ?_, ?_⟩
  · rw [hLL.out]; exact hsb.pure (gr_drewN (World.grownBy.refl _ _) _)
  · exact hgz.t (gr_drewN (World.grownBy.refl _ _) _)

end Go.Proofs.YtanioobepfllgaaDoor

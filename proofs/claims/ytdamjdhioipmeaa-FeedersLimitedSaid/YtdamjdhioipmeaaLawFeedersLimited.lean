/- Contracts of functions that this seat's laws reach, each: what one call returns and what it leaves in memory; no condition beyond each theorem's own hypotheses. -/
import Derived.Test.YtdamjdhioipmeaaFlowJ
import Derived.Test.YtdamjdhioipmeaaInv
import Derived.Deep.DeepCutAuto
set_option linter.unusedVariables false
set_option linter.unusedSimpArgs false
namespace Go.Proofs.Ytdamjdhioipmeaa
open Go.RowKit Go.Bl

def PPtr (b : Nat) : Value → World → Prop := fun v _ => v = .pointer (some ⟨b, 0, none⟩)
def PLit (b n : Nat) : Value → World → Prop := fun v w => ∃ (g : Nat) (l : List Int), v = .slice (some ⟨g, 0, none⟩) n n ∧ l.length = n ∧ Sl w (b + 1) (some ⟨g, 0, none⟩) l
def PInt : Value → World → Prop := fun v _ => ∃ r, v = .int .i64 r
def PNat (n : Nat) : Value → World → Prop := fun v _ => ∃ r : Nat, v = .int .i64 r ∧ r ≤ n
def PSl (b n : Nat) : Value → World → Prop := fun v w => ∃ (g : Nat) (l : List Int), v = .slice (some ⟨g, 0, none⟩) l.length n ∧ l.length ≤ n ∧ Sl w (b + 1) (some ⟨g, 0, none⟩) l
def Kept (b : Nat) (w w' : World) : Prop := w.grownBy w' (some b)

set_option maxHeartbeats 4000000 in
set_option maxRecDepth 100000 in
theorem feeders_law (A : Option Addr) (n c : Nat) (L : List Int) (w : World) (hL : Sl w 0 A L) (hn : L.length = n) :
    Calls Try.prog 4 #[.slice A n c] w fun e w' => e = .returned (.bool true) ∧ w.grownBy w' none := by
  have hs0 := strm_new (c := c) 25 hL hn
  have hg0 := gr_alloc (World.grownBy.refl w none) (.cells #[.slice A n c, .int .i64 0] 25)
  go_enter Try.func4, Try.ntmps4
  go_wp2_with fail
  refine (beadList_any _ 0 _ hs0 (by omega)).mono ?_
  rintro e w1 ⟨l, A1, c1, rfl, hown1, hl6, ho1⟩
  go_wp2_with fail
  refine (anArea_any _ _ _ ho1.2 (by omega)).mono ?_
  rintro e w2 ⟨area, rfl, _, ho2⟩
  have hown2 := hown1.s ho2 (by simp)
  have hoA := ho1.trans ho2
  go_wp2_with fail
  refine (pick_any _ _ _ _ _ [1, 800, 0, 5001] _ (hoA.2.pure (gr_alloc (World.grownBy.refl _ _) _)) (by omega) (sl_intsAt _ _ _ _ _ (by simp) (by have := hoA.lt; omega) (by simp [maxLen])) rfl (by simp)).mono ?_
  rintro e w3 ⟨back, rfl, _, ho3⟩
  have hown3 := (hown2.pure (gr_alloc (World.grownBy.refl _ _) _)).s ho3 (by simp)
  have hoB := (hoA.pure (gr_alloc (World.grownBy.refl _ _) _)).trans ho3
  clear hown1 hown2 hs0 ho1 ho2 ho3 hoA
  go_wp2_with fail
  refine (beadPlaces_any _ _ _ _ hoB.2 (by omega) (by omega)).mono ?_
  rintro e w4 ⟨pl, B, d, rfl, hpl, hpn, ho4⟩
  have hown4 := hown3.s ho4 (by simp)
  have hlo4 := hoB.lt
  have hoC := hoB.trans ho4
  have hpl4 := hpl.lower (show w.heap.size + 1 ≤ w3.heap.size by omega)
  clear hpl hown3 hoB ho4
  go_wp2_with fail
  refine (pick_any _ _ _ _ _ [1, 1000, 90000, 0, 1000000000001] _ (hoC.2.pure (gr_alloc (World.grownBy.refl _ _) _)) (by omega) (sl_intsAt _ _ _ _ _ (by simp) (by have := hoC.lt; omega) (by simp [maxLen])) rfl (by simp)).mono ?_
  rintro e w5 ⟨fl, rfl, _, ho5⟩
  have hown5 := (hown4.pure (gr_alloc (World.grownBy.refl _ _) _)).s ho5 (by simp)
  have hpl5 := (hpl4.pure (gr_alloc (World.grownBy.refl _ _) _)).s ho5 (by simp)
  have hoD := (hoC.pure (gr_alloc (World.grownBy.refl _ _) _)).trans ho5
  clear hpl4 hown4 hoC ho5
  go_wp2_with fail
  refine (pick_any _ _ _ _ _ [1, 1240, 0, 1000001] _ (hoD.2.pure (gr_alloc (World.grownBy.refl _ _) _)) (by omega) (sl_intsAt _ _ _ _ _ (by simp) (by have := hoD.lt; omega) (by simp [maxLen])) rfl (by simp)).mono ?_
  rintro e w6 ⟨den, rfl, _, ho6⟩
  have hown6 := (hown5.pure (gr_alloc (World.grownBy.refl _ _) _)).s ho6 (by simp)
  have hpl6 := (hpl5.pure (gr_alloc (World.grownBy.refl _ _) _)).s ho6 (by simp)
  have hoE := (hoD.pure (gr_alloc (World.grownBy.refl _ _) _)).trans ho6
  clear hpl5 hown5 hoD ho6
  obtain ⟨N6, hN6, hoF⟩ : ∃ N6 : Int, N6 ≤ 1000 ∧ SOut w.heap.size N6 (w.alloc (.cells #[.slice A n c, .int .i64 0] 25)) w6 := ⟨_, by omega, hoE⟩
  clear hoE
  go_wp2_with fail
  refine wp_region_invF (fun k wx => SOut w.heap.size (N6 + k) w6 wx) (Kept w.heap.size) [PPtr w.heap.size, PLit w.heap.size 3, PInt, PPtr w.heap.size, PLit w.heap.size 3, PInt, PPtr w.heap.size, PLit w.heap.size 3, PInt, PLit w.heap.size 3, PPtr w.heap.size, PNat 3, PSl w.heap.size 3, PPtr w.heap.size, PLit w.heap.size 4, PInt, PSl w.heap.size 3, PInt]
    [0, 0, 1, 0, 0, 1, 0, 0, 1, 0, 0, 1, 0, 0, 0, 1, 0, 0] (by kernel_rfl) (by kernel_rfl) (by intro vs; simp only [putAll, Act.put, List.setIfInBounds_toArray, List.set_cons_zero, List.set_cons_succ, Nat.reduceAdd]; exact rfl) ⟨gr_drew (World.grownBy.refl _ _), (hoF.2.mono (by simp)).pure (gr_drew (World.grownBy.refl _ _))⟩ ?iv1 rfl ?iv2 ?iv3
  case iv1 =>
    intro φ hφ
    have p1 : ∀ b v w w', Kept b w w' → PPtr b v w → PPtr b v w' := fun b v w w' _ h => h
    have p2 : ∀ b n v w w', Kept b w w' → PLit b n v w → PLit b n v w' := fun b n v w w' hk ⟨g, l, h1, h2, h3⟩ => ⟨g, l, h1, h2, h3.gr hk (fun g e => by cases e; omega)⟩
    have p3 : ∀ b n v w w', Kept b w w' → PSl b n v w → PSl b n v w' := fun b n v w w' hk ⟨g, l, h1, h2, h3⟩ => ⟨g, l, h1, h2, h3.gr hk (fun g e => by cases e; omega)⟩
    simp only [List.mem_cons, List.not_mem_nil, or_false] at hφ
    intro v w w' hk h
    rcases hφ with rfl | rfl | rfl | rfl | rfl | rfl | rfl | rfl | rfl | rfl | rfl | rfl | rfl | rfl | rfl | rfl | rfl | rfl <;> first | exact p1 _ _ _ _ hk h | exact p2 _ _ _ _ _ hk h | exact p3 _ _ _ _ _ hk h | exact h
  case iv2 =>
    refine OpsF.op (fun vs wx k hI hk hf K hK => ?_) ?_
    · clear hf
      replace hK := hide hK
      go_wp2_with fail
      replace hK := hK.out (.pointer (some ⟨w.heap.size, 0, none⟩))
      simp only [Act.put, List.setIfInBounds_toArray, List.set_cons_zero, List.set_cons_succ, Nat.add_zero] at hK
      exact hK _ hI (World.grownBy.refl _ _) rfl
    refine OpsF.op (fun vs wx k hI hk hf K hK => ?_) ?_
    · clear hf
      replace hK := hide hK
      go_wp2_with fail
      replace hK := hK.out (.slice (some ⟨wx.heap.size, 0, none⟩) ([0, 5, 900]).length ([0, 5, 900]).length)
      simp only [Act.put, List.setIfInBounds_toArray, List.set_cons_zero, List.set_cons_succ, Nat.add_zero] at hK
      exact hK _ (hI.pure (gr_alloc (World.grownBy.refl _ _) _)) (gr_alloc (World.grownBy.refl _ _) _) ⟨wx.heap.size, [0, 5, 900], rfl, rfl, sl_intsAt _ _ _ _ _ rfl (by have := hI.lt; omega) (by simp [maxLen])⟩
    refine OpsF.op (fun vs wx k hI hk hf K hK => ?_) ?_
    · obtain ⟨g, ll, e1, hll, hsl⟩ := hf 1 (by decide) (by kernel_rfl)
      have e0 : vs 0 = .pointer (some ⟨w.heap.size, 0, none⟩) := hf 0 (by decide) (by kernel_rfl)
      clear hf
      have hk2 : k + 1 ≤ 5 := hk
      clear hk
      replace hK := hide hK
      rw [e0, e1]
      replace e0 := hide e0
      replace e1 := hide e1
      go_wp2_with fail
      refine (pick_any w.heap.size (N6 + k) _ _ _ ll _ hI.2 (by omega) hsl hll (by omega)).mono ?_
      rintro e wy ⟨r, rfl, _, hoy⟩
      go_wp2_with fail
      replace hK := hK.out (.int .i64 r)
      simp only [Act.put, List.setIfInBounds_toArray, List.set_cons_zero, List.set_cons_succ, e0.out, e1.out] at hK
      exact hK _ ((hI.trans hoy).mono (by simp; omega)) hoy.1 ⟨r, rfl⟩
    refine OpsF.op (fun vs wx k hI hk hf K hK => ?_) ?_
    · clear hf
      replace hK := hide hK
      go_wp2_with fail
      replace hK := hK.out (.pointer (some ⟨w.heap.size, 0, none⟩))
      simp only [Act.put, List.setIfInBounds_toArray, List.set_cons_zero, List.set_cons_succ, Nat.add_zero] at hK
      exact hK _ hI (World.grownBy.refl _ _) rfl
    refine OpsF.op (fun vs wx k hI hk hf K hK => ?_) ?_
    · clear hf
      replace hK := hide hK
      go_wp2_with fail
      replace hK := hK.out (.slice (some ⟨wx.heap.size, 0, none⟩) ([20, 7, -1]).length ([20, 7, -1]).length)
      simp only [Act.put, List.setIfInBounds_toArray, List.set_cons_zero, List.set_cons_succ, Nat.add_zero] at hK
      exact hK _ (hI.pure (gr_alloc (World.grownBy.refl _ _) _)) (gr_alloc (World.grownBy.refl _ _) _) ⟨wx.heap.size, [20, 7, -1], rfl, rfl, sl_intsAt _ _ _ _ _ rfl (by have := hI.lt; omega) (by simp [maxLen])⟩
    refine OpsF.op (fun vs wx k hI hk hf K hK => ?_) ?_
    · obtain ⟨g, ll, e1, hll, hsl⟩ := hf 4 (by decide) (by kernel_rfl)
      have e0 : vs 3 = .pointer (some ⟨w.heap.size, 0, none⟩) := hf 3 (by decide) (by kernel_rfl)
      clear hf
      have hk2 : k + 1 ≤ 5 := hk
      clear hk
      replace hK := hide hK
      rw [e0, e1]
      replace e0 := hide e0
      replace e1 := hide e1
      go_wp2_with fail
      refine (pick_any w.heap.size (N6 + k) _ _ _ ll _ hI.2 (by omega) hsl hll (by omega)).mono ?_
      rintro e wy ⟨r, rfl, _, hoy⟩
      go_wp2_with fail
      replace hK := hK.out (.int .i64 r)
      simp only [Act.put, List.setIfInBounds_toArray, List.set_cons_zero, List.set_cons_succ, e0.out, e1.out] at hK
      exact hK _ ((hI.trans hoy).mono (by simp; omega)) hoy.1 ⟨r, rfl⟩
    refine OpsF.op (fun vs wx k hI hk hf K hK => ?_) ?_
    · clear hf
      replace hK := hide hK
      go_wp2_with fail
      replace hK := hK.out (.pointer (some ⟨w.heap.size, 0, none⟩))
      simp only [Act.put, List.setIfInBounds_toArray, List.set_cons_zero, List.set_cons_succ, Nat.add_zero] at hK
      exact hK _ hI (World.grownBy.refl _ _) rfl
    refine OpsF.op (fun vs wx k hI hk hf K hK => ?_) ?_
    · clear hf
      replace hK := hide hK
      go_wp2_with fail
      replace hK := hK.out (.slice (some ⟨wx.heap.size, 0, none⟩) ([300, 86400001, 4]).length ([300, 86400001, 4]).length)
      simp only [Act.put, List.setIfInBounds_toArray, List.set_cons_zero, List.set_cons_succ, Nat.add_zero] at hK
      exact hK _ (hI.pure (gr_alloc (World.grownBy.refl _ _) _)) (gr_alloc (World.grownBy.refl _ _) _) ⟨wx.heap.size, [300, 86400001, 4], rfl, rfl, sl_intsAt _ _ _ _ _ rfl (by have := hI.lt; omega) (by simp [maxLen])⟩
    refine OpsF.op (fun vs wx k hI hk hf K hK => ?_) ?_
    · obtain ⟨g, ll, e1, hll, hsl⟩ := hf 7 (by decide) (by kernel_rfl)
      have e0 : vs 6 = .pointer (some ⟨w.heap.size, 0, none⟩) := hf 6 (by decide) (by kernel_rfl)
      clear hf
      have hk2 : k + 1 ≤ 5 := hk
      clear hk
      replace hK := hide hK
      rw [e0, e1]
      replace e0 := hide e0
      replace e1 := hide e1
      go_wp2_with fail
      refine (pick_any w.heap.size (N6 + k) _ _ _ ll _ hI.2 (by omega) hsl hll (by omega)).mono ?_
      rintro e wy ⟨r, rfl, _, hoy⟩
      go_wp2_with fail
      replace hK := hK.out (.int .i64 r)
      simp only [Act.put, List.setIfInBounds_toArray, List.set_cons_zero, List.set_cons_succ, e0.out, e1.out] at hK
      exact hK _ ((hI.trans hoy).mono (by simp; omega)) hoy.1 ⟨r, rfl⟩
    refine OpsF.op (fun vs wx k hI hk hf K hK => ?_) ?_
    · obtain ⟨r1, e1⟩ := hf 2 (by decide) (by kernel_rfl)
      obtain ⟨r2, e2⟩ := hf 5 (by decide) (by kernel_rfl)
      obtain ⟨r3, e3⟩ := hf 8 (by decide) (by kernel_rfl)
      clear hf
      replace hK := hide hK
      rw [e1, e2, e3]
      replace e1 := hide e1
      replace e2 := hide e2
      replace e3 := hide e3
      go_wp2_with fail
      replace hK := hK.out (.slice (some ⟨wx.heap.size, 0, none⟩) 3 3)
      simp only [Act.put, List.setIfInBounds_toArray, List.set_cons_zero, List.set_cons_succ, e1.out, e2.out, e3.out] at hK
      exact hK _ (hI.pure (gr_alloc (World.grownBy.refl _ _) _)) (gr_alloc (World.grownBy.refl _ _) _) ⟨wx.heap.size, [r1, r2, r3], rfl, rfl, sl_intsAt _ _ _ _ _ rfl (by have := hI.lt; omega) (by simp [maxLen])⟩
    refine OpsF.op (fun vs wx k hI hk hf K hK => ?_) ?_
    · clear hf
      replace hK := hide hK
      go_wp2_with fail
      replace hK := hK.out (.pointer (some ⟨w.heap.size, 0, none⟩))
      simp only [Act.put, List.setIfInBounds_toArray, List.set_cons_zero, List.set_cons_succ, Nat.add_zero] at hK
      exact hK _ hI (World.grownBy.refl _ _) rfl
    refine OpsF.op (fun vs wx k hI hk hf K hK => ?_) ?_
    · have e0 : vs 10 = .pointer (some ⟨w.heap.size, 0, none⟩) := hf 10 (by decide) (by kernel_rfl)
      clear hf
      have hk2 : k + 1 ≤ 5 := hk
      clear hk
      replace hK := hide hK
      rw [e0]
      replace e0 := hide e0
      go_wp2_with fail
      refine (range_any w.heap.size (N6 + k) _ _ _ hI.2 (by omega) (by omega) (by omega) (by omega)).mono ?_
      rintro e wy ⟨r, rfl, ⟨hr0, hr3⟩, hoy⟩
      obtain ⟨i, rfl⟩ := Int.eq_ofNat_of_zero_le hr0
      go_wp2_with fail
      replace hK := hK.out (.int .i64 (i : Int))
      simp only [Act.put, List.setIfInBounds_toArray, List.set_cons_zero, List.set_cons_succ, e0.out] at hK
      exact hK _ ((hI.trans hoy).mono (by simp; omega)) hoy.1 ⟨i, rfl, by omega⟩
    refine OpsF.op (fun vs wx k hI hk hf K hK => ?_) ?_
    · obtain ⟨g, ll, e1, hll, hsl⟩ := hf 9 (by decide) (by kernel_rfl)
      obtain ⟨i, e2, hi3⟩ := hf 11 (by decide) (by kernel_rfl)
      clear hf hk
      replace hK := hide hK
      rw [e1, e2]
      replace e1 := hide e1
      replace e2 := hide e2
      have hlt : (ll.take i).length = i := by rw [List.length_take]; omega
      replace hlt := hide hlt
      go_wp2_with fail
      replace hK := hK.out (.slice (some ⟨g, 0, none⟩) i 3)
      simp only [Act.put, List.setIfInBounds_toArray, List.set_cons_zero, List.set_cons_succ, e1.out, e2.out] at hK
      exact hK _ hI (World.grownBy.refl _ _) ⟨g, ll.take i, by rw [hlt.out], by rw [hlt.out]; exact hi3, hsl.take i⟩
    refine OpsF.op (fun vs wx k hI hk hf K hK => ?_) ?_
    · clear hf
      replace hK := hide hK
      go_wp2_with fail
      replace hK := hK.out (.pointer (some ⟨w.heap.size, 0, none⟩))
      simp only [Act.put, List.setIfInBounds_toArray, List.set_cons_zero, List.set_cons_succ, Nat.add_zero] at hK
      exact hK _ hI (World.grownBy.refl _ _) rfl
    refine OpsF.op (fun vs wx k hI hk hf K hK => ?_) ?_
    · clear hf
      replace hK := hide hK
      go_wp2_with fail
      replace hK := hK.out (.slice (some ⟨wx.heap.size, 0, none⟩) ([0, 10, 100, -1]).length ([0, 10, 100, -1]).length)
      simp only [Act.put, List.setIfInBounds_toArray, List.set_cons_zero, List.set_cons_succ, Nat.add_zero] at hK
      exact hK _ (hI.pure (gr_alloc (World.grownBy.refl _ _) _)) (gr_alloc (World.grownBy.refl _ _) _) ⟨wx.heap.size, [0, 10, 100, -1], rfl, rfl, sl_intsAt _ _ _ _ _ rfl (by have := hI.lt; omega) (by simp [maxLen])⟩
    refine OpsF.op (fun vs wx k hI hk hf K hK => ?_) ?_
    · obtain ⟨g, ll, e1, hll, hsl⟩ := hf 14 (by decide) (by kernel_rfl)
      have e0 : vs 13 = .pointer (some ⟨w.heap.size, 0, none⟩) := hf 13 (by decide) (by kernel_rfl)
      clear hf
      have hk2 : k + 1 ≤ 5 := hk
      clear hk
      replace hK := hide hK
      rw [e0, e1]
      replace e0 := hide e0
      replace e1 := hide e1
      go_wp2_with fail
      refine (pick_any w.heap.size (N6 + k) _ _ _ ll _ hI.2 (by omega) hsl hll (by omega)).mono ?_
      rintro e wy ⟨r, rfl, _, hoy⟩
      go_wp2_with fail
      replace hK := hK.out (.int .i64 r)
      simp only [Act.put, List.setIfInBounds_toArray, List.set_cons_zero, List.set_cons_succ, e0.out, e1.out] at hK
      exact hK _ ((hI.trans hoy).mono (by simp; omega)) hoy.1 ⟨r, rfl⟩
    refine OpsF.op (fun vs wx k hI hk hf K hK => ?_) ?_
    · obtain ⟨g, ll, e1, hll, hsl⟩ := hf 12 (by decide) (by kernel_rfl)
      clear hf hk
      replace hK := hide hK
      rw [e1]
      replace e1 := hide e1
      go_wp2_with fail
      replace hK := hK.out (.slice (some ⟨g, 0, none⟩) ll.length 3)
      simp only [Act.put, List.setIfInBounds_toArray, List.set_cons_zero, List.set_cons_succ, e1.out] at hK
      exact hK _ hI (World.grownBy.refl _ _) ⟨g, ll, rfl, hll, hsl⟩
    refine OpsF.op (fun vs wx k hI hk hf K hK => ?_) ?_
    · obtain ⟨r, e1⟩ := hf 15 (by decide) (by kernel_rfl)
      clear hf hk
      replace hK := hide hK
      rw [e1]
      replace e1 := hide e1
      go_wp2_with fail
      replace hK := hK.out (.int .i64 r)
      simp only [Act.put, List.setIfInBounds_toArray, List.set_cons_zero, List.set_cons_succ, e1.out] at hK
      exact hK _ hI (World.grownBy.refl _ _) ⟨r, rfl⟩
    exact OpsF.done
  intro vs w7 ho7 hf
  obtain ⟨g7, times, e1, htl, hts⟩ := hf 16 (by decide)
  obtain ⟨least, e2⟩ := hf 17 (by decide)
  clear hf
  rw [e1, e2]
  clear e1 e2
  have hcap := hown6.cap
  have hl7 := ((hown6.s ho7 (by simp)).sl.mono (Nat.zero_le _))
  have hp7 := ((hpl6.s ho7 (by omega)).sl.mono (Nat.zero_le _))
  have ht7 := hts.mono (Nat.zero_le _)
  have hgT : Hid (w.grownBy w7 none) := gr_new hg0 (hoF.trans ho7).1 (Nat.le_refl _)
  have hll : l.length ≤ 1000000 := by omega
  clear hown6 hpl6 hts hoF ho7 hg0 hpn hN6 hlo4
  go_wp2_with fail
  refine (retracted_any _ _ l area back _ _ pl _ hl7 hll hp7).mono ?_
  rintro e w8 ⟨AR, cR, rfl, hR, g8⟩
  go_wp2_with fail
  refine (fastestGo_any _ _ l fl _ (hl7.pure g8)).mono ?_
  rintro e w9 ⟨AF, cF, rfl, hF, hg9⟩
  have g9 := g8.t hg9
  go_wp2_with fail
  refine (slowed_any _ _ times least _ (ht7.pure g9)).mono ?_
  rintro e w10 ⟨AS, cS, rfl, hS, hg10⟩
  have g10 := g9.t hg10
  go_wp2_with fail
  refine (weight_any _ _ l den _ (hl7.pure g10)).mono ?_
  rintro e w11 ⟨rfl, hg11⟩
  have g11 := g10.t hg11
  have hgA := gnew w11 (.cells #[.int .i64 (weight l den).num, .int .i64 (weight l den).den] 36)
  have kn0 : (w11.alloc (.cells #[.int .i64 (weight l den).num, .int .i64 (weight l den).den] 36)).cell? ⟨w11.heap.size, 0, none⟩ = some (.int .i64 (weight l den).num) := by go_simp
  have kn1 : (w11.alloc (.cells #[.int .i64 (weight l den).num, .int .i64 (weight l den).den] 36)).cell? ⟨w11.heap.size, 1, none⟩ = some (.int .i64 (weight l den).den) := by go_simp
  have hR11 := (hR.sl.mono (Nat.zero_le _)).pure (hg9.t (hg10.t hg11))
  have hF11 := (hF.sl.mono (Nat.zero_le _)).pure (hg10.t hg11)
  have hS11 := (hS.sl.mono (Nat.zero_le _)).pure hg11
  have hl11 := hl7.pure g11
  have hp11 := hp7.pure g11
  have ht11 := ht7.pure g11
  clear hR hF hS hg9 hg10 hg11 g8 g9 g10 hl7 hp7 ht7
  go_wp2_with fail
  refine (areaFaultRef_any _ _ l area _ (hl11.pure hgA)).mono ?_
  rintro e w12 ⟨rfl, hg12⟩
  have g12 := hgA.t hg12
  go_wp2_with fail
  refine (beadsFault_any _ _ l _ (hl11.pure g12)).mono ?_
  rintro e w13 ⟨rfl, hg13⟩
  have g13 := g12.t hg13
  go_wp2_with fail
  refine (spanFault_any _ _ _ _).mono ?_
  rintro e w13' ⟨rfl, rfl⟩
  go_wp2_with fail
  have H2 := hide (orL_two (checkBeads l) (spanF fl 1 1000000000000))
  refine (or_any _ _ _ [checkBeads l, spanF fl 1 1000000000000] _ (sl_ints _ _ _ _ (Nat.zero_le _) (by simp [maxLen])) rfl).mono ?_
  rintro e w13' ⟨rfl, rfl⟩
  rw [H2.out]
  rw [show orS (checkBeads l) (spanF fl 1 1000000000000) = fastFault l fl from rfl]
  have g14 := gr_alloc g13 (.cells #[.int .i64 (checkBeads l), .int .i64 (spanF fl 1 1000000000000)] 30)
  clear H2
  go_wp2_with fail
  refine (timesFault_any _ _ times least _ (ht11.pure g14)).mono ?_
  rintro e w15 ⟨rfl, hg15⟩
  have g15 := g14.t hg15
  go_wp2_with fail
  refine (weightFault_any _ _ l den _ (hl11.pure g15)).mono ?_
  rintro e w16 ⟨rfl, hg16⟩
  have g16 := g15.t hg16
  have gk := ((gr_alloc (hg12.t hg13) _).t hg15).t hg16
  have kn0 := gk.k kn0
  have kn1 := gk.k kn1
  have hl16 := hl11.pure g16
  have hp16 := hp11.pure g16
  have ht16 := ht11.pure g16
  have hR16 := hR11.pure g16
  have hF16 := hF11.pure g16
  have hS16 := hS11.pure g16
  have G16 : Hid (w.grownBy w16 none) := hgT.out.t (g11.t g16)
  have hgB := gnew w16 (.cells #[.int .i64 0, .int .i64 0] 36)
  clear gk hl11 hp11 ht11 hR11 hF11 hS11 g11 g12 g13 g14 g15 g16 hgA hg12 hg13 hg15 hg16 hgT
  go_upto_if 109 with fail
  go_cut [21] (fun s21 wx => s21 = .int .i64 (retrFault l area back pl) ∧ w16 = wx)
  case first =>
    by_cases hA : areaFault l area = 0
    · have hb : (areaFault l area == 0) = true := by simp [hA]
      have HS : Hid (backF l.length back pl = retrFault l area back pl) := by unfold Hid retrFault; rw [orS_zero hA]
      clear hA
      go_wp2_with fail
      refine (backFault_any _ _ l back _ _ pl _ hp16 hll).mono ?_
      rintro e wz ⟨rfl, rfl⟩
      rw [HS.out]
      go_wp2_with fail
      go_meet
      exact ⟨rfl, rfl⟩
    · have hb : (areaFault l area == 0) = false := by simp [hA]
      have HS : Hid (areaFault l area = retrFault l area back pl) := by unfold Hid retrFault; rw [orS_ne hA]
      clear hA
      go_wp2_with fail
      go_meet
      exact ⟨by rw [HS.out], rfl⟩
  case rest =>
  obtain ⟨rfl, rfl⟩ := hcut
  go_upto_if 115 with fail
  go_cut [25] (fun s25 wx => ∃ (A' : Option Addr) (c' : Nat), s25 = .slice A' (retracted l area back pl).length c' ∧ Sl wx (w16.heap.size + 1) A' (retracted l area back pl) ∧ (w16.alloc (.cells #[.int .i64 0, .int .i64 0] 36)).grownBy wx none)
  case first =>
    by_cases hE : retrFault l area back pl = 0
    · have hb : (retrFault l area back pl == 0) = true := by simp [hE]
      replace hE := hide hE
      go_wp2_with fail
      refine (retractedOf_any _ _ l area back _ _ pl _ (hl16.pure hgB) hcap (hp16.pure hgB) hE.out).mono ?_
      rintro e wz ⟨A', c', rfl, hO, hgz⟩
      go_wp2_with fail
      go_meet
      exact ⟨A', c', rfl, hO.sl.mono (by simp), hgz⟩
    · have hb : (retrFault l area back pl == 0) = false := by simp [hE]
      have HN : Hid (retracted l area back pl = []) := by unfold Hid retracted; rw [if_pos hE]
      clear hE
      go_wp2_with fail
      go_meet
      exact ⟨none, 0, by rw [HN.out]; rfl, by rw [HN.out]; exact Sl.nil, World.grownBy.refl _ _⟩
  case rest =>
  obtain ⟨A25, c25, rfl, h25, g25⟩ := hcut
  rename World => w25
  have z25 : w16.heap.size + 1 ≤ w25.heap.size := by have := g25.size; simp at this; omega
  go_upto_if 122 with fail
  go_cut [26] (fun s26 wx => ∃ (A' : Option Addr) (c' : Nat), s26 = .slice A' (fastest l fl).length c' ∧ Sl wx (w16.heap.size + 1) A' (fastest l fl) ∧ w25.grownBy wx none)
  case first =>
    by_cases hE : fastFault l fl = 0
    · have hb : (fastFault l fl == 0) = true := by simp [hE]
      replace hE := hide hE
      go_wp2_with fail
      refine (fastestOf_any _ _ l fl _ ((hl16.pure hgB).pure g25) hE.out).mono ?_
      rintro e wz ⟨A', c', rfl, hO, hgz⟩
      go_wp2_with fail
      go_meet
      exact ⟨A', c', rfl, hO.sl.mono z25, hgz⟩
    · have hb : (fastFault l fl == 0) = false := by simp [hE]
      have HN : Hid (fastest l fl = []) := by unfold Hid fastest; rw [if_pos hE]
      clear hE
      go_wp2_with fail
      go_meet
      exact ⟨none, 0, by rw [HN.out]; rfl, by rw [HN.out]; exact Sl.nil, World.grownBy.refl _ _⟩
  case rest =>
  obtain ⟨A26, c26, rfl, h26, g26⟩ := hcut
  rename World => w26
  have z26 : w16.heap.size + 1 ≤ w26.heap.size := Nat.le_trans z25 g26.size
  have g26' := g25.t g26
  go_upto_if 127 with fail
  go_cut [27, 29] (fun s27 s29 wx => ∃ (A' : Option Addr) (c' : Nat), s27 = .slice A' (slowed times least).length c' ∧ s29 = .int .i64 (grown times least) ∧ Sl wx (w16.heap.size + 1) A' (slowed times least) ∧ w26.grownBy wx none)
  case first =>
    by_cases hE : timesF times least = 0
    · have hb : (timesF times least == 0) = true := by simp [hE]
      replace hE := hide hE
      go_wp2_with fail
      refine (slowedOf_any _ _ times least _ ((ht16.pure hgB).pure g26') hE.out).mono ?_
      rintro e wz ⟨A', c', rfl, hO, hgz⟩
      go_wp2_with fail
      go_meet
      exact ⟨A', c', rfl, rfl, hO.sl.mono z26, hgz⟩
    · have hb : (timesF times least == 0) = false := by simp [hE]
      have HN : Hid (slowed times least = []) := by unfold Hid slowed; rw [if_pos hE]
      have HM : Hid (grown times least = 0) := by unfold Hid grown; rw [if_pos hE]
      clear hE
      go_wp2_with fail
      go_meet
      exact ⟨none, 0, by rw [HN.out]; rfl, by rw [HM.out], by rw [HN.out]; exact Sl.nil, World.grownBy.refl _ _⟩
  case rest =>
  obtain ⟨A27, c27, rfl, rfl, h27, g27⟩ := hcut
  rename World => w27
  have z27 : w16.heap.size + 1 ≤ w27.heap.size := Nat.le_trans z26 g27.size
  have g27' := g26'.t g27
  go_upto_if 135 with fail
  go_cut [] (fun wx => wx.cell? ⟨w16.heap.size, 0, none⟩ = some (.int .i64 (weight l den).num) ∧ wx.cell? ⟨w16.heap.size, 1, none⟩ = some (.int .i64 (weight l den).den) ∧ w27.grownBy wx (some w16.heap.size))
  case first =>
    by_cases hE : weightF l den = 0
    · have hb : (weightF l den == 0) = true := by simp [hE]
      replace hE := hide hE
      go_wp2_with fail
      refine (weightOf_any _ _ l den _ ((hl16.pure hgB).pure g27') hE.out).mono ?_
      rintro e wz ⟨rfl, hgz⟩
      have gz := g27'.t hgz
      have kb0 : wz.cell? ⟨w16.heap.size, 0, none⟩ = some (.int .i64 0) := gz.k (by go_simp)
      have kb1 : wz.cell? ⟨w16.heap.size, 1, none⟩ = some (.int .i64 0) := gz.k (by go_simp)
      have fb0 : wz.frozen? ⟨w16.heap.size, 0, none⟩ = false := gz.f (p := ⟨w16.heap.size, 0, none⟩) (u := .int .i64 0) (by go_simp) (by go_simp)
      have fb1 : wz.frozen? ⟨w16.heap.size, 1, none⟩ = false := gz.f (p := ⟨w16.heap.size, 1, none⟩) (u := .int .i64 0) (by go_simp) (by go_simp)
      have gs := gr_set (p := ⟨w16.heap.size, 1, none⟩) (gr_set (p := ⟨w16.heap.size, 0, none⟩) (gr_step (World.grownBy.refl w27 (some w16.heap.size)) hgz) (.inl rfl) (.int .i64 (weight l den).num)) (.inl rfl) (.int .i64 (weight l den).den)
      replace gs := hide gs
      go_wp2_with fail
      go_meet
      exact ⟨by simp [go_sem, kb0, kb1], by simp [go_sem, kb0, kb1], gs.out⟩
    · have hb : (weightF l den == 0) = false := by simp [hE]
      have HN : Hid (weight l den = ⟨0, 0⟩) := by unfold Hid weight; rw [if_pos hE]
      clear hE
      go_wp2_with fail
      go_meet
      exact ⟨by rw [HN.out]; exact g27'.k (by go_simp), by rw [HN.out]; exact g27'.k (by go_simp), World.grownBy.refl _ _⟩
  case rest =>
  obtain ⟨kb0, kb1, gE⟩ := hcut
  rename World => wE
  have gE16 : w16.grownBy wE none := gr_new (hgB.t g27') gE (Nat.le_refl _)
  have kn0 := gE16.k kn0
  have kn1 := gE16.k kn1
  have hRE := hR16.pure gE16
  have hFE := hF16.pure gE16
  have hSE := hS16.pure gE16
  have h25E := (h25.pure (g26.t g27)).gr gE (fun g e => by cases e; omega)
  have h26E := (h26.pure g27).gr gE (fun g e => by cases e; omega)
  have h27E := h27.gr gE (fun g e => by cases e; omega)
  have GE : Hid (w.grownBy wE none) := G16.out.t gE16
  clear hR16 hF16 hS16 h25 h26 h27 gE gE16 g25 g26 g27 g26' g27' hgB hl16 hp16 ht16 z25 z26 z27 hll hcap htl hl6
  go_wp2_with fail
  refine (equalInts_any _ _ _ _ (retracted l area back pl) (retracted l area back pl) _ hRE (h25E.mono (Nat.zero_le _))).mono ?_
  rintro e x1 ⟨rfl, hg1⟩
  rw [eqB_refl]
  go_wp2_with fail
  refine (equalInts_any _ _ _ _ (fastest l fl) (fastest l fl) _ (hFE.pure hg1) ((h26E.mono (Nat.zero_le _)).pure hg1)).mono ?_
  rintro e x2 ⟨rfl, hg2⟩
  rw [eqB_refl]
  go_wp2_with fail
  refine (equalInts_any _ _ _ _ (slowed times least) (slowed times least) _ (hSE.pure (hg1.t hg2)) ((h27E.mono (Nat.zero_le _)).pure (hg1.t hg2))).mono ?_
  rintro e x3 ⟨rfl, hg3⟩
  rw [eqB_refl]
  have g3 := hg1.t (hg2.t hg3)
  have kn0 := g3.k kn0
  have kn1 := g3.k kn1
  have kb0 := g3.k kb0
  have kb1 := g3.k kb1
  go_wp2_with fail
  refine (flowed_any _).mono ?_
  rintro e x4 ⟨rfl, hg4⟩
  go_wp2
  go_ret
  exact ⟨rfl, GE.out.t (g3.t hg4)⟩
end Go.Proofs.Ytdamjdhioipmeaa

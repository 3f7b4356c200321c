/- Contracts of functions that this seat's laws reach, each: what one call returns and what it leaves in memory; no condition beyond each theorem's own hypotheses. -/
import Derived.Test.YtejmbaiioblfeaaGreatDoorZqHulL
import Derived.Test.YtejmbaiioblfeaaGreatDoorZqPtCl
import Derived.Test.YtejmbaiioblfeaaGreatDoorZqRegIn
import Derived.Test.YtejmbaiioblfeaaGreatDoorZqGeoD
import Derived.Test.YtejmbaiioblfeaaGreatDoorZqReady
set_option linter.unusedVariables false
set_option linter.unusedSimpArgs false
namespace Go.Proofs.YtejmbaiioblfeaaGreatDoor
open Go Go.RowKit Go.Bl

/-- what a hull is good for -/
structure HullOk (l H : List Pt) : Prop where
  sub : ∀ x ∈ H, x ∈ l
  len : H.length ≤ l.length
  ring : l.length ≤ 500 → ringF H = 0
  holds : ∀ p ∈ l, 0 ≤ insF [H] p
  own : ∀ K, IsHull H K → K = H
  again : ∀ E, l.length ≤ 500 → ¬ NoHull H E

theorem any_far {l : List Pt} : l.any farP = false ↔ ∀ p ∈ l, farP p = false := by rw [List.any_eq_false]; constructor <;> (intro h p hp; have := h p hp; simpa using this)

theorem hull_ok {l H : List Pt} (h : IsHull l H) : HullOk l H := by
  obtain ⟨-, hf, ps, hs, hm, h3, hh3, rfl⟩ := h
  obtain ⟨s, t, Hu⟩ := hul_of (by omega) hs
  have C := Hu.cvx hh3
  have hsub : ∀ x ∈ hullL ps, x ∈ l := fun x hx => (hm x).1 (Hu.sub x hx)
  have hnd : (hullL ps).Nodup := by
    rw [List.nodup_iff_pairwise_ne, List.pairwise_iff_getElem]
    intro i j hi hj hij
    rw [← cor_lt hi, ← cor_lt hj]
    exact C.rr.inj i j hij (by omega)
  have hlen := nodup_le hnd hsub
  have hfar : (hullL ps).any farP = false := any_far.2 fun p hp => any_far.1 hf p (hsub p hp)
  refine ⟨hsub, hlen, fun h5 => ringF_of (by omega) hfar C.rr, fun p hp => hull_holds hs (by omega) hh3 ((hm p).2 hp), fun K hK => ?_, fun E h5 hE => ?_⟩
  · obtain ⟨-, -, qs, q1, q2, -, -, rfl⟩ := hK
    exact (hull_twice hs (by omega) hh3 q1 q2).2
  · rcases hE with ⟨k, -⟩ | ⟨-, k, -⟩ | ⟨-, -, -, qs, q1, q2, k⟩
    · omega
    · rw [hfar] at k; cases k
    · obtain ⟨a, b⟩ := hull_twice hs (by omega) hh3 q1 q2
      rw [b] at k
      omega

theorem turn_self0 (a b : Pt) : turnP a a b = 0 := by unfold turnP; simp

theorem wide_hull {l : List Pt} {E : Int} (h : hfE l = 0) : ¬ NoHull l E := by
  unfold hfE at h
  by_cases h1 : 1000 < l.length
  · rw [if_pos h1] at h; cases h
  · rw [if_neg h1] at h
    by_cases h2 : l.any farP = true
    · rw [if_pos h2] at h; cases h
    · rw [if_neg h2] at h
      by_cases h3 : wideB l = true
      · rintro (⟨k, -⟩ | ⟨-, k, -⟩ | ⟨-, -, -, ps, q1, q2, k⟩)
        · exact h1 k
        · exact h2 k
        · obtain ⟨a, ha, h4⟩ := List.any_eq_true.1 h3
          obtain ⟨b, hb, h5⟩ := List.any_eq_true.1 h4
          have h5 := of_decide_eq_true h5
          have h0 : 0 < l.length := List.length_pos_of_mem ha
          have hz : l.getD 0 default ∈ l := by rw [gdE h0]; exact List.getElem_mem h0
          refine h5 ?_
          have fl : ∀ x ∈ ps, ∀ a ∈ ps, ∀ b ∈ ps, turnP x a b = 0 := by
            by_cases c : ps.length < 2
            · -- one point at most
              intro x hx a ha b hb
              obtain ⟨y, rfl⟩ : ∃ y, ps = [y] := List.length_eq_one_iff.1 (by have := List.length_pos_of_mem hx; omega)
              rw [List.mem_singleton.1 hx, List.mem_singleton.1 ha]
              exact turn_self0 _ _
            · obtain ⟨s, t, Hu⟩ := hul_of (by omega) q1
              refine Hu.flat ?_
              rcases k with k | k
              · by_cases c3 : (hullL ps).length < 3
                · exact c3
                · exfalso
                  have C := Hu.cvx (by omega)
                  have hnd : (hullL ps).Nodup := by
                    rw [List.nodup_iff_pairwise_ne, List.pairwise_iff_getElem]
                    intro i j hi hj hij
                    rw [← cor_lt hi, ← cor_lt hj]
                    exact C.rr.inj i j hij (by omega)
                  have := nodup_le hnd Hu.sub
                  omega
              · exact k
          exact fl _ ((q2 _).2 hz) _ ((q2 _).2 ha) _ ((q2 _).2 hb)
      · rw [if_neg h3] at h; cases h

theorem ins_ok {rs : List (List Pt)} {p : Pt} (h : regF rs = 0) (hf : farP p = false) : insE rs p = 0 ∧ insV rs p = insF rs p := by
  have e : insE rs p = 0 := by unfold insE; rw [if_neg (by simp [h]), hf]; rfl
  refine ⟨e, ?_⟩
  unfold insV
  rw [if_neg (by simp [e])]

theorem sl_ring1 (w : World) (t : TypeId) (A : Option Addr) (a : List Pt) (c : Nat) (ha : a.length ≤ c) (hA : Sl w 0 A a) : Sl (w.alloc (.cells #[.slice A a.length c] t)) 0 (some ⟨w.heap.size, 0, none⟩) [a] :=
  sl_lit w 0 [.slice A a.length c] t [a] (Nat.zero_le _) (by simp [maxLen]) ⟨_, [], rfl, ⟨A, c, rfl, ha, hA.pure (gr_alloc (World.grownBy.refl w none) _)⟩, rfl⟩

theorem reg_one {H : List Pt} (h : ringF H = 0) (hl : H.length ≤ 500) : regF [H] = 0 := by
  refine of_rok2 ⟨by simp, ?_, fun r hr => by rw [List.mem_singleton.1 hr]; exact h, fun i j hi hj hne => ?_⟩
  · rw [flatK_all (Nat.le_refl _)]; simp; omega
  · simp at hi hj; omega

set_option maxHeartbeats 1000000 in
set_option maxRecDepth 100000 in
theorem hullClo_any (q : Pt) (g4 : Nat) (A : Option Addr) (c : Nat) (l : List Pt) (w : World) (hl : Sl w 0 A l) (h4 : w.cell? ⟨g4, 0, none⟩ = some (.slice A l.length c)) (hq : q ∈ l) :
    Calls Tryz.prog 25 #[.agg #[.int .i64 q.x, .int .i64 q.y], .pointer (some ⟨g4, 0, none⟩)] w fun e w' => e = .returned (.bool false) ∧ w.grownBy w' none := by
  have hC := hide fun W (h : w.grownBy W none) => containsPs_any A l.length c l q W (hl.pure h) rfl
  rw [decide_eq_true hq] at hC
  go_enter Tryz.func25, Tryz.ntmps25
  go_upto_region 1 with fail
  obtain ⟨w3, hw3⟩ : ∃ x, x = (w).alloc (.cells [.int .i64 q.x, .int .i64 q.y].toArray 29) := ⟨_, rfl⟩
  have hg3 : (w).grownBy w3 none := by rw [hw3]; exact gr_alloc (World.grownBy.refl _ _) _
  have hb3 : Box w3 (w).heap.size 29 [.int .i64 q.x, .int .i64 q.y] := by rw [hw3]; exact Box.new _ _ _
  have hxs3 := hb3.lt
  rw [← hw3]
  clear hw3
  obtain ⟨x3, hx3⟩ : ∃ x, x = (w).heap.size := ⟨_, rfl⟩
  rw [← hx3] at hb3 hxs3 ⊢
  have hxl3 : (w).heap.size ≤ x3 := by omega
  clear hx3
  obtain ⟨b0, _⟩ := hb3.c 0 rfl
  obtain ⟨b1, _⟩ := hb3.c 1 rfl
  replace h4 := hg3.k h4
  clear hl hq
  go_wp2_with fail
  refine (hC.out _ hg3).mono ?_
  rintro e w5 ⟨rfl, hg5⟩
  go_wp2_with fail
  go_ret
  exact ⟨rfl, hg3.t hg5⟩

set_option maxHeartbeats 800000 in
set_option maxRecDepth 100000 in
theorem hullNone_any (B : Option Addr) (d : Nat) (m : List Pt) (g4 : Nat) (A : Option Addr) (c : Nat) (l : List Pt) (w : World) (hm : Sl w 0 B m) (hl : Sl w 0 A l) (h4 : w.cell? ⟨g4, 0, none⟩ = some (.slice A l.length c)) (hq : ∀ q ∈ m, q ∈ l) :
    Calls Tryz.prog 24 #[.slice B m.length d, .func (.func 25) #[] #[.pointer (some ⟨g4, 0, none⟩)]] w fun e w' => e = .returned (.bool false) ∧ w.grownBy w' none := by
  have hI : Calls Tryz.prog 61 #[.slice B m.length d, .func (.func 25) #[] #[.pointer (some ⟨g4, 0, none⟩)]] w fun e w' => e = .returned (.int .i64 (-1)) ∧ w.grownBy w' none := by
    have hmm := hm.1
    unfold maxLen at hmm
    replace hq := hide hq
    go_enter Tryz.func61, Tryz.ntmps61
    go_wp2
    go_loopw [8] (fun i wr => ∃ k : Nat, k ≤ m.length ∧ i = .int .i64 k ∧ w.grownBy wr none) (fun i _ => m.length - (intOf i).toNat)
    case atStart => exact ⟨0, Nat.zero_le _, rfl, World.grownBy.refl _ _⟩
    case round =>
      obtain ⟨k, hk, rfl, hg⟩ := hrel
      by_cases hlt : k < m.length
      · obtain ⟨g, o, cx, rfl, hb0, hb1, rfl, hc⟩ := (hm.pure hg).at_ (by decide) hlt
        have c0 : wr.cell? ⟨g, o + k * 2, none⟩ = some (.int .i64 m[k].x) := hc 0 _ rfl
        have c1 : wr.cell? ⟨g, o + k * 2 + 1, none⟩ = some (.int .i64 m[k].y) := hc 1 _ rfl
        clear hc
        have hcon := hullClo_any m[k] g4 A c l wr (hl.pure hg) (hg.k h4) (hq.out _ (List.getElem_mem hlt))
        generalize m[k] = q at *
        replace hcon := hide hcon
        go_wp2_with fail
        refine hcon.out.mono ?_
        rintro e w5 ⟨rfl, hg5⟩
        go_wp2_with fail
        (go_roundw; (case rel => exact ⟨k + 1, by omega, by go_num, hg.t hg5⟩); (case measure => simp [intOf]; omega))
      · go_wp2
        go_ret
        exact ⟨rfl, hg⟩
  go_enter Tryz.func24, Tryz.ntmps24
  go_wp2_with fail
  refine hI.mono ?_
  rintro e w1 ⟨rfl, hg⟩
  go_wp2_with fail
  go_ret
  exact ⟨rfl, hg⟩

set_option maxHeartbeats 4000000 in
set_option maxRecDepth 100000 in
theorem hulls_law (A : Option Addr) (n c : Nat) (L : List Int) (w : World) (hL : Sl w 0 A L) (hn : L.length = n) :
    Calls Tryz.prog 4 #[.slice A n c] w fun e w' => e = .returned (.bool true) ∧ w.grownBy w' none := by
  have hs0 := strm_new (c := c) 25 hL hn
  have hg0 := gr_alloc (World.grownBy.refl w none) (.cells #[.slice A n c, .int .i64 0] 25)
  have hR := pointCloud_any _ 0 _ hs0 (by omega)
  go_enter Tryz.func4, Tryz.ntmps4
  go_wp2_with fail
  refine hR.mono ?_
  rintro e w1 ⟨A1, c1, l, rfl, hl, hl9, ho1⟩
  have hgw : w.grownBy w1 none := gr_new hg0 ho1.1 (Nat.le_refl _)
  replace hl := hl.mono (Nat.zero_le _)
  clear ho1 hs0 hg0 hL hR
  go_upto_region 3 with fail
  obtain ⟨w4, hw4⟩ : ∃ x, x = (w1).alloc (.cells [.slice A1 l.length c1].toArray 35) := ⟨_, rfl⟩
  have hg4 : (w1).grownBy w4 none := by rw [hw4]; exact gr_alloc (World.grownBy.refl _ _) _
  have hb4 : Box w4 (w1).heap.size 35 [.slice A1 l.length c1] := by rw [hw4]; exact Box.new _ _ _
  have hxs4 := hb4.lt
  rw [← hw4]
  clear hw4
  obtain ⟨x4, hx4⟩ : ∃ x, x = (w1).heap.size := ⟨_, rfl⟩
  rw [← hx4] at hb4 hxs4 ⊢
  have hxl4 : (w1).heap.size ≤ x4 := by omega
  clear hx4
  replace hl := hl.pure hg4
  replace hgw := hgw.t hg4
  clear hg4
  obtain ⟨b0, _⟩ := hb4.c 0 rfl
  have hHF := hide (hullFault_any A1 c1 l w4 hl)
  go_wp2_with fail
  refine hHF.out.mono ?_
  rintro e w5 ⟨rfl, hg5⟩
  clear hHF
  replace hl := hl.pure hg5
  replace hgw := hgw.t hg5
  replace hb4 := hb4.pure hg5
  clear hg5 b0
  by_cases h0 : hfE l = 0
  · have hne : (hfE l != 0) = false := by simp [h0]
    have hX := hide (hullX_any A1 l.length c1 l w5 hl rfl (by omega))
    have hno := hide fun E => wide_hull (E := E) h0
    clear h0
    obtain ⟨b0, _⟩ := hb4.c 0 rfl
    go_wp2_with fail
    refine hX.out.mono ?_
    rintro e w6 (⟨E, hE, -⟩ | ⟨A6, c6, H, hH, rfl, hO6, hg6⟩)
    · exact absurd hE (hno.out E)
    · have hok := hull_ok hH
      have hr0 := hok.ring (by omega)
      have hHl : H.length ≤ 9 := by have := hok.len; omega
      have hregF := reg_one hr0 (by omega)
      have hfar := hH.2.1
      have hCR := hide fun W (h : w6.grownBy W none) => checkRing_any A6 c6 H W ((hO6.sl.mono (Nat.zero_le _)).pure h)
      rw [hr0] at hCR
      have hX2 := hide fun W (h : w6.grownBy W none) => hullX_any A6 H.length c6 H W ((hO6.sl.mono (Nat.zero_le _)).pure h) rfl (by omega)
      replace hok := hide hok
      clear hX hno hr0 hH b0
      have hH6 := hO6.sl.mono (Nat.zero_le _)
      have hHc := hO6.cap
      replace hl := hl.pure hg6
      replace hgw := hgw.t hg6
      replace hb4 := hb4.pure hg6
      clear hg6 hO6
      go_wp2_with fail
      refine (hCR.out _ (World.grownBy.refl _ _)).mono ?_
      rintro e w7 ⟨rfl, hg7⟩
      clear hCR
      go_wp2_with fail
      refine (hX2.out _ hg7).mono ?_
      rintro e w8 (⟨E, hE, -⟩ | ⟨A8, c8, K, hK, rfl, hO8, hg8⟩)
      · exact absurd hE (hok.out.again E (by omega))
      · obtain rfl : K = H := hok.out.own K hK
        clear hX2 hK
        have hg78 := hg7.t hg8
        have hEq := hide (equalRing_same A8 c8 K A6 c6 w8 (hO8.sl.mono (Nat.zero_le _)) (hH6.pure hg78))
        go_wp2_with fail
        refine hEq.out.mono ?_
        rintro e w9 ⟨rfl, hg9⟩
        clear hEq hO8 hg7 hg8
        have hg69 := hg78.t hg9
        replace hH6 := hH6.pure hg69
        replace hl := hl.pure hg69
        replace hgw := hgw.t hg69
        replace hb4 := hb4.pure hg69
        clear hg69 hg78 hg9
        obtain ⟨b0, _⟩ := hb4.c 0 rfl
        replace hfar := hide hfar
        replace hregF := hide hregF
        go_wp2_with fail
        go_loopw [48] (fun i wr => ∃ k : Nat, k ≤ l.length ∧ i = .int .i64 k ∧ w9.grownBy wr none) (fun i _ => l.length - (intOf i).toNat)
        case atStart => exact ⟨0, Nat.zero_le _, rfl, World.grownBy.refl _ _⟩
        case round =>
          obtain ⟨k, hk, rfl, hgr⟩ := hrel
          by_cases hlt : k < l.length
          · have hpf := any_far.1 hfar.out _ (List.getElem_mem hlt)
            have hin := hok.out.holds _ (List.getElem_mem hlt)
            obtain ⟨g, o, cx, hA1, -, -, rfl, hc⟩ := (hl.pure hgr).at_ (by decide) hlt
            have c0 : wr.cell? ⟨g, o + k * 2, none⟩ = some (.int .i64 l[k].x) := hc 0 _ rfl
            have c1' : wr.cell? ⟨g, o + k * 2 + 1, none⟩ = some (.int .i64 l[k].y) := hc 1 _ rfl
            clear hc
            generalize l[k] = p at *
            subst hA1
            go_upto_region 14 with fail
            obtain ⟨w9', hw9'⟩ : ∃ x, x = (wr).alloc (.cells [.int .i64 p.x, .int .i64 p.y].toArray 29) := ⟨_, rfl⟩
            have hg9' : (wr).grownBy w9' none := by rw [hw9']; exact gr_alloc (World.grownBy.refl _ _) _
            have hb9' : Box w9' (wr).heap.size 29 [.int .i64 p.x, .int .i64 p.y] := by rw [hw9']; exact Box.new _ _ _
            have hxs9' := hb9'.lt
            rw [← hw9']
            clear hw9'
            obtain ⟨x9', hx9'⟩ : ∃ x, x = (wr).heap.size := ⟨_, rfl⟩
            rw [← hx9'] at hb9' hxs9' ⊢
            have hxl9' : (wr).heap.size ≤ x9' := by omega
            clear hx9'
            obtain ⟨p0, _⟩ := hb9'.c 0 rfl
            obtain ⟨p1, _⟩ := hb9'.c 1 rfl
            clear c0 c1'
            obtain ⟨e1, e2⟩ := ins_ok (p := p) hregF.out hpf
            have hI := hide (inside_any (some ⟨w9'.heap.size, 0, none⟩) 1 [K] p (w9'.alloc (.cells #[.slice A6 K.length c6] 36)) (sl_ring1 w9' _ A6 K c6 hHc (hH6.pure (hgr.t hg9'))) (by rw [flatK_all (Nat.le_refl _)]; simp; omega))
            rw [e1, e2] at hI
            clear e1 e2 hpf
            generalize insF [K] p = V at *
            have hV : decide (V < 0) = false := decide_eq_false (by omega)
            have hga := gr_alloc (World.grownBy.refl w9' none) (.cells #[.slice A6 K.length c6] 36)
            replace p0 := hga.k p0
            replace p1 := hga.k p1
            go_wp2_with fail
            refine hI.out.mono ?_
            rintro e w12 ⟨rfl, hg12⟩
            go_wp2_with fail
            (go_roundw; (case rel => exact ⟨k + 1, by omega, by go_num, hgr.t (hg9'.t (hga.t hg12))⟩); (case measure => simp [intOf]; omega))
          · have hz : k = l.length := by omega
            have hNo := hide (hullNone_any A6 c6 K x4 A1 c1 l wr (hH6.pure hgr) (hl.pure hgr) (hgr.k b0) hok.out.sub)
            go_wp2_with fail
            refine hNo.out.mono ?_
            rintro e w12 ⟨rfl, hg12⟩
            go_wp2_with fail
            refine (ready_any _).mono ?_
            rintro e wf ⟨rfl, hgf⟩
            go_wp2_with fail
            exact bodyPost_ret (v := .bool true) (by simp [results, Tryz.results4, go_sem]) rfl ⟨rfl, hgw.t (hgr.t (hg12.t hgf))⟩
  · have hne : (hfE l != 0) = true := by simp [h0]
    go_wp2_with fail
    refine (ready_any _).mono ?_
    rintro e w6 ⟨rfl, hg6⟩
    go_wp2_with fail
    exact bodyPost_ret (v := .bool true) (by simp [results, Tryz.results4, go_sem]) rfl ⟨rfl, hgw.t hg6⟩

end Go.Proofs.YtejmbaiioblfeaaGreatDoor

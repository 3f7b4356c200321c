/- Contracts of functions that this seat's laws reach, each: what one call returns and what it leaves in memory; no condition beyond each theorem's own hypotheses. -/
import Derived.Test.YtkcchcnljanloaaGreatZqMeshJ
import Derived.Test.YtkcchcnljanloaaGreatZqOpenSort
set_option linter.unusedVariables false
set_option linter.unusedSimpArgs false
namespace Go.Proofs.YtkcchcnljanloaaGreat
open Go.RowKit Go.Bl

theorem sortSides_any (A : Option Addr) (c : Nat) (lo : Nat) (l : List Sd) (w : World) (ho : Own w lo 63 A c l) (hl : l.length ≤ 1000000) :
    Calls Tryz.prog 45 #[.slice A l.length c, .func (.func 63) #[] #[]] w fun e w' => e = .returned (.tuple #[]) ∧ ∃ l' : List Sd, l'.Perm l ∧ SrtS l' ∧ Own w' lo 63 A c l' ∧ w.grownBy w' (blk A) := by
  rcases own_cases ho with ⟨rfl, rfl, rfl⟩ | ⟨g, rfl⟩
  · refine (sortNil_any w _).mono ?_
    rintro e w' ⟨rfl, rfl⟩
    exact ⟨rfl, [], List.Perm.refl _, fun i j hi => by simp at hi, ho, World.grownBy.refl _ _⟩
  · exact sortSides_own g c lo l w ho hl

theorem sortSidesR_any (A : Option Addr) (c : Nat) (lo : Nat) (l : List Sd) (w : World) (ho : Own w lo 63 A c l) (hl : l.length ≤ 1000000) :
    Calls Tryz.prog 45 #[.slice A l.length c, .func (.func 46) #[] #[]] w fun e w' => e = .returned (.tuple #[]) ∧ ∃ l' : List Sd, l'.Perm l ∧ SrtS l' ∧ Own w' lo 63 A c l' ∧ w.grownBy w' (blk A) := by
  rcases own_cases ho with ⟨rfl, rfl, rfl⟩ | ⟨g, rfl⟩
  · refine (sortNil_any w _).mono ?_
    rintro e w' ⟨rfl, rfl⟩
    exact ⟨rfl, [], List.Perm.refl _, fun i j hi => by simp at hi, ho, World.grownBy.refl _ _⟩
  · exact sortSidesR_own g c lo l w ho hl

theorem TakS.nil (L : List Sd) : TakS L (fun x => (setS L x).isSome = true) [] := by
  refine ⟨by simp, fun s => ?_⟩
  simp only [List.not_mem_nil, false_iff]
  rintro ⟨h1, h2, -⟩
  exact h2 (by simp [setS, h1])

set_option maxHeartbeats 4000000 in
set_option maxRecDepth 100000 in
theorem open_any (A : Option Addr) (n c : Nat) (B : Option Addr) (d : Nat) (fs : List Fc) (w : World) (hfs : Sl w 0 B fs) (hf1 : fs.length ≤ 1000) (hok0 : ∀ s ∈ allS fs, okS s) (hnd : (allS fs).Nodup) :
    Calls Tryz.prog 38 #[.agg #[.slice A n c, .slice B fs.length d]] w fun e w' => ∃ (l : List Sd) (O : Option Addr) (co : Nat), e = .returned (.slice O l.length co) ∧ Own w' w.heap.size 63 O co l ∧ l.Perm (openS fs) ∧ SrtS l ∧ w.grownBy w' none := by
  have hm2 := hfs.1
  unfold maxLen at hm2
  replace hok0 := hide hok0
  replace hnd := hide hnd
  have hg0 := gr_alloc (World.grownBy.refl w none) (.cells #[.slice A n c, .slice B fs.length d] 29)
  have b1 := (Cell.new w [.slice A n c, .slice B fs.length d] 29 1 _ rfl _ rfl).1
  have hlt0 : w.heap.size < (w.alloc (.cells #[.slice A n c, .slice B fs.length d] 29)).heap.size := by simp
  have hmk := run_makeMap (P := Tryz.prog) 96 (w.alloc (.cells #[.slice A n c, .slice B fs.length d] 29))
  have hM0 := MapOf.made sideM (w.alloc (.cells #[.slice A n c, .slice B fs.length d] 29))
  have hge := gr_alloc (World.grownBy.refl (w.alloc (.cells #[.slice A n c, .slice B fs.length d] 29)) none) (.map #[] 0)
  rw [show (fun _ : Sd => (none : Option Bool)) = setS (allS (fs.take 0)) by funext z; simp [setS, allS]] at hM0
  replace hM0 := hide hM0
  have b3 := hge.k b1
  have hsz : (w.alloc (.cells #[.slice A n c, .slice B fs.length d] 29)).heap.size = w.heap.size + 1 := by simp
  rw [hsz] at hmk hM0 hlt0
  clear hsz
  go_enter Tryz.func38, Tryz.ntmps38
  go_wp2_with fail
  clear hmk b1
  have hgC := gr_trans hg0 hge
  generalize hWm : (w.alloc (.cells #[.slice A n c, .slice B fs.length d] 29)).alloc (.map #[] 0) = W3 at *
  generalize hbm : w.heap.size + 1 = bm at *
  have hgW3 := World.grownBy.refl W3 (some bm)
  clear hWm hge
  have hbw : w.heap.size ≤ bm := by omega
  clear hg0 hbm
  go_loopw [14] (fun i wr => ∃ k : Nat, k ≤ fs.length ∧ i = .int .i64 k ∧ w.grownBy wr none ∧ W3.grownBy wr (some bm) ∧ MapOf sideM wr bm (3 * k) (setS (allS (fs.take k)))) (fun i _ => fs.length - (intOf i).toNat)
  case atStart => exact ⟨0, Nat.zero_le _, rfl, hgC, hgW3, hM0.out⟩
  case round =>
    obtain ⟨k, hk, rfl, hg, hgW, hM⟩ := hrel
    by_cases hlt : k < fs.length
    · have HS := hide (allS_snoc hlt)
      have hok : Hid (∀ s ∈ sdsOf fs[k], okS s) := fun s hs => hok0.out s (List.mem_flatMap.2 ⟨_, List.getElem_mem hlt, hs⟩)
      obtain ⟨g, o, cx, rfl, hb0, hb1, rfl, hc⟩ := (hfs.pure hg).at_ (by decide) hlt
      have v0 : wr.cell? ⟨g, o + k * 3, none⟩ = some (.int .i64 fs[k].a) := hc 0 _ rfl
      have v1 : wr.cell? ⟨g, o + k * 3 + 1, none⟩ = some (.int .i64 fs[k].b) := hc 1 _ rfl
      have v2 : wr.cell? ⟨g, o + k * 3 + 2, none⟩ = some (.int .i64 fs[k].c) := hc 2 _ rfl
      clear hc
      generalize fs[k] = f at *
      replace hM := hide hM
      go_wp2_with fail
      refine (sides_any f _).mono ?_
      rintro e w2 ⟨rfl, hg2⟩
      have hM2 := (hM.out.kept (gr_alloc (World.grownBy.refl wr none) (.cells #[.int .i64 f.a, .int .i64 f.b, .int .i64 f.c] 58)) (by simp)).kept hg2 (by simp)
      have hgw2 := gr_trans (gr_alloc hg (.cells #[.int .i64 f.a, .int .i64 f.b, .int .i64 f.c] 58)) hg2
      have hgW2 := gr_trans (gr_alloc hgW (.cells #[.int .i64 f.a, .int .i64 f.b, .int .i64 f.c] 58)) (gr_any hg2)
      clear hM v0 v1 v2 hg2 hg hgW hb0 hb1
      replace hM2 := hide hM2
      go_wp2_with fail
      generalize hL0 : allS (fs.take k) = L0 at *
      clear hL0
      go_loopw [20] (fun i wr => ∃ j : Nat, j ≤ 3 ∧ i = .int .i64 j ∧ w.grownBy wr none ∧ W3.grownBy wr (some bm) ∧ MapOf sideM wr bm (3 * k + j) (setS (L0 ++ (sdsOf f).take j))) (fun i _ => 3 - (intOf i).toNat)
      case atStart => exact ⟨0, by omega, rfl, hgw2, hgW2, by simpa using hM2.out⟩
      case round =>
        obtain ⟨j, hj, rfl, hg, hgW, hM⟩ := hrel
        by_cases hjt : j < 3
        · obtain rfl | rfl | rfl : j = 0 ∨ j = 1 ∨ j = 2 := by omega
          · have hix := index3_0 wr f.a f.b f.b f.c f.c f.a
            have hok1 : okS ⟨f.a, f.b⟩ := hok.out _ (by simp [sdsOf])
            have hMa := hM.kept (gr_alloc (World.grownBy.refl wr none) (.cells #[.int .i64 (f.a), .int .i64 (f.b)] 63)) (by simp)
            have hga := gr_alloc hg (.cells #[.int .i64 (f.a), .int .i64 (f.b)] 63)
            have hgWa := gr_alloc hgW (.cells #[.int .i64 (f.a), .int .i64 (f.b)] 63)
            have HL : L0 ++ (sdsOf f).take (0 + 1) = (L0 ++ (sdsOf f).take 0) ++ [⟨f.a, f.b⟩] := by simp [sdsOf]
            replace HL := hide HL
            generalize L0 ++ (sdsOf f).take 0 = L at *
            clear hM hg hgW HS
            replace hMa := hide hMa
            replace hok1 := hide hok1
            go_wp2_with (at_mapUpdate; refine wpList_store_S _ rfl _ _ _ rfl bm _ L rfl hMa.out (by simp [maxLen]; omega) ⟨f.a, f.b⟩ rfl rfl hok1.out ?_; intro w4 hM4 hg4)
            have hM5 := hide (show MapOf sideM w4 bm (3 * k + (0 + 1)) (setS (L0 ++ (sdsOf f).take (0 + 1))) by rw [HL.out]; exact hM4.mono (by omega))
            have hg5 := gr_new hga hg4 (by omega)
            have hg6 := gr_trans hgWa hg4
            clear hM4 HL
            go_roundw
            case rel => exact ⟨0 + 1, by omega, by go_num, hg5, hg6, hM5.out⟩
            case measure => simp [intOf]
          · have hix := index3_1 wr f.a f.b f.b f.c f.c f.a
            have hok1 : okS ⟨f.b, f.c⟩ := hok.out _ (by simp [sdsOf])
            have hMa := hM.kept (gr_alloc (World.grownBy.refl wr none) (.cells #[.int .i64 (f.b), .int .i64 (f.c)] 63)) (by simp)
            have hga := gr_alloc hg (.cells #[.int .i64 (f.b), .int .i64 (f.c)] 63)
            have hgWa := gr_alloc hgW (.cells #[.int .i64 (f.b), .int .i64 (f.c)] 63)
            have HL : L0 ++ (sdsOf f).take (1 + 1) = (L0 ++ (sdsOf f).take 1) ++ [⟨f.b, f.c⟩] := by simp [sdsOf]
            replace HL := hide HL
            generalize L0 ++ (sdsOf f).take 1 = L at *
            clear hM hg hgW HS
            replace hMa := hide hMa
            replace hok1 := hide hok1
            go_wp2_with (at_mapUpdate; refine wpList_store_S _ rfl _ _ _ rfl bm _ L rfl hMa.out (by simp [maxLen]; omega) ⟨f.b, f.c⟩ rfl rfl hok1.out ?_; intro w4 hM4 hg4)
            have hM5 := hide (show MapOf sideM w4 bm (3 * k + (1 + 1)) (setS (L0 ++ (sdsOf f).take (1 + 1))) by rw [HL.out]; exact hM4.mono (by omega))
            have hg5 := gr_new hga hg4 (by omega)
            have hg6 := gr_trans hgWa hg4
            clear hM4 HL
            go_roundw
            case rel => exact ⟨1 + 1, by omega, by go_num, hg5, hg6, hM5.out⟩
            case measure => simp [intOf]
          · have hix := index3_2 wr f.a f.b f.b f.c f.c f.a
            have hok1 : okS ⟨f.c, f.a⟩ := hok.out _ (by simp [sdsOf])
            have hMa := hM.kept (gr_alloc (World.grownBy.refl wr none) (.cells #[.int .i64 (f.c), .int .i64 (f.a)] 63)) (by simp)
            have hga := gr_alloc hg (.cells #[.int .i64 (f.c), .int .i64 (f.a)] 63)
            have hgWa := gr_alloc hgW (.cells #[.int .i64 (f.c), .int .i64 (f.a)] 63)
            have HL : L0 ++ (sdsOf f).take (2 + 1) = (L0 ++ (sdsOf f).take 2) ++ [⟨f.c, f.a⟩] := by simp [sdsOf]
            replace HL := hide HL
            generalize L0 ++ (sdsOf f).take 2 = L at *
            clear hM hg hgW HS
            replace hMa := hide hMa
            replace hok1 := hide hok1
            go_wp2_with (at_mapUpdate; refine wpList_store_S _ rfl _ _ _ rfl bm _ L rfl hMa.out (by simp [maxLen]; omega) ⟨f.c, f.a⟩ rfl rfl hok1.out ?_; intro w4 hM4 hg4)
            have hM5 := hide (show MapOf sideM w4 bm (3 * k + (2 + 1)) (setS (L0 ++ (sdsOf f).take (2 + 1))) by rw [HL.out]; exact hM4.mono (by omega))
            have hg5 := gr_new hga hg4 (by omega)
            have hg6 := gr_trans hgWa hg4
            clear hM4 HL
            go_roundw
            case rel => exact ⟨2 + 1, by omega, by go_num, hg5, hg6, hM5.out⟩
            case measure => simp [intOf]
        · have hj3 : j = 3 := by omega
          subst hj3
          have e3 : (sdsOf f).take 3 = sdsOf f := rfl
          rw [e3, ← HS.out] at hM
          replace hM := hide hM
          go_wp2
          (go_roundw; (case rel => exact ⟨k + 1, by omega, by go_num, hg, hgW, hM.out.mono (by omega)⟩); (case measure => simp [intOf]; omega))
    · rw [List.take_of_length_le (show fs.length ≤ k by omega)] at hM
      have hop : Hid (openS fs = (allS fs).filter fun s => !decide (rvS s ∈ allS fs)) := rfl
      have hLl : (allS fs).length ≤ 3000 := by rw [allS_len]; omega
      generalize hOS : openS fs = OS at *
      replace hOS := hide hOS
      generalize allS fs = L at *
      clear hM0
      have hbm2 := hM.lt
      replace hM := hide hM
      go_wp2_with (at_range; refine wpList_range_M _ sideM rfl _ _ rfl Tryz.underlying96 bm _ _ rfl hM.out ?_; intro w5 cnt hR hg5 hs5 hcn)
      have hg6 := gr_trans hg hg5
      have hr0 : w.heap.size ≤ wr.heap.size := hg.size
      clear hM hg hgW hgW3 hgC hcn hg5 b3
      generalize wr.heap.size = r at *
      obtain ⟨lo, hlo⟩ : ∃ lo, lo = w5.heap.size := ⟨_, rfl⟩
      have hrl : r < lo := by omega
      have hT0 := hide (TakS.nil L)
      have hO0 : Own w5 lo 63 none 0 ([] : List Sd) := Own.nil _ _ _
      have hlo5 : lo ≤ w5.heap.size := by omega
      clear hlo hs5
      go_frame
      go_loopw [8] (fun o wr => ∃ (S : Sd → Prop) (cnt : Nat) (out : List Sd) (O : Option Addr) (co : Nat), o = .slice O out.length co ∧ RangeOf sideM wr bm r (3 * k) (setS L) S cnt ∧ Own wr lo 63 O co out ∧ Hid (TakS L S out) ∧ lo ≤ wr.heap.size ∧ w.grownBy wr none) (fun _ wr => wr.rangeLeft bm r)
      case atStart => exact ⟨_, cnt, [], none, 0, rfl, hR, hO0, hT0, hlo5, hg6⟩
      case round =>
        obtain ⟨S, cn, out, O, co, rfl, hR1, hO, hT, hlow, hg1⟩ := hrel
        clear hg6 hlo5 hO0 hT0 hR
        have hol := hT.out.len
        have hleft := hR1.left
        have hmap := hR1.map
        have hne := hR1.ne
        have hO := hide hO
        go_wp2_with (at_next; refine wpList_next_S _ rfl _ rfl bm r _ _ S cn rfl hR1 (fun h0 hnS => Hid.out ?_) (fun x w7 cn7 hox hSx hxL hR7 hlt7 hg7 hen => Hid.out ?_))
        · refine hide ?_
          have hperm := hide (hT.out.done (fun x hx => hnS x (hok0.out x hx)) hnd.out)
          clear hnS hR1 hmap hT hleft
          go_wp2_with fail
          refine (sortSides_any O co lo out _ hO.out (by omega)).mono ?_
          rintro e w8 ⟨rfl, l', hp, hs, hO8, hg8⟩
          have hge := gr_row hg1 hg8 (fun g e => by have := (hO.out.blk_lt e).1; omega)
          have hlen := hide hp.length_eq
          have hp2 : Hid (l'.Perm OS) := hp.trans (by rw [hop.out]; exact hperm.out)
          clear hp hperm hop
          go_wp2_with fail
          go_ret
          exact ⟨l', O, co, by rw [hlen.out]; rfl, hO8.lower (by omega), by rw [hOS.out]; exact hp2.out, hs, hge⟩
        · refine hide ?_
          have hok2 : Hid (okS (rvS x)) := ⟨hox.2, hox.1⟩
          have hMx := hide (hR7.map.kept (gr_alloc (World.grownBy.refl w7 none) (.cells #[.int .i64 x.u, .int .i64 x.v] 63)) (by simp))
          have hR8 := hide (hR7.kept (gr_alloc (World.grownBy.refl w7 none) (.cells #[.int .i64 x.u, .int .i64 x.v] 63)) (by simp) (by simp))
          have hg8 := gr_alloc (gr_new hg1 hg7 hr0) (.cells #[.int .i64 x.u, .int .i64 x.v] 63)
          have hO7 := hide (hO.out.keep hg7 (fun g e => by injection e; omega))
          have hlo7 : lo ≤ w7.heap.size := Nat.le_trans hlow hg7.size
          by_cases hin : rvS x ∈ L
          · have hb : Hid (decide (rvS x ∈ L) = true) := decide_eq_true hin
            have hT2 := hide (hT.out.skip hin)
            clear hR7 hSx hxL hR1 hmap hin hT
            go_wp2_with (at_lookup; refine wpList_lookup_S _ rfl _ _ rfl bm _ L rfl hMx.out (rvS x) rfl hok2.out true hb.out ?_)
            go_roundw
            case rel => exact ⟨_, cn7, out, O, co, rfl, hR8.out, hO7.out.pure (by repeat (first | exact World.grownBy.refl _ _ | assumption | refine gr_alloc ?_ _ | (apply gr_tail; assumption) | refine gr_drewN ?_ _ | refine gr_drew ?_)), hT2.out, by simp; omega, hg8⟩
            case measure => rw [hR8.out.left, hleft]; exact hlt7
          · have hb : Hid (decide (rvS x ∈ L) = false) := decide_eq_false hin
            have hT2 := hide (hT.out.push hSx hxL hin)
            have hol2 := hT2.out.len
            clear hR7 hSx hxL hR1 hmap hin hT
            go_upto_region 16 with (at_lookup; refine wpList_lookup_S _ rfl _ _ rfl bm _ L rfl hMx.out (rvS x) rfl hok2.out false hb.out ?_)
            go_wp2_with (at_builtin; obtain ⟨i0, hi, hz, h1, h2⟩ := info_parts info_side; refine wpList_pushAt (α := Sd) _ rfl (.tmp 41) (.tmp 43) _ rfl lo 63 i0 _ 16 Tryz.underlying34 hi hz h1 h2 rfl O _ co out rfl rfl (by exact hO7.out.pure (by repeat (first | exact World.grownBy.refl _ _ | assumption | refine gr_alloc ?_ _ | (apply gr_tail; assumption) | refine gr_drewN ?_ _ | refine gr_drew ?_))) 0 ⟨_, 0, none⟩ 1 1 [x] rfl rfl (by exact sl_oneAt _ 0 [.int .i64 x.u, .int .i64 x.v] _ _ _ (by first | rfl | simp) (Nat.zero_le _) rfl) ?c2 ?c3 ?c4 ?_)
            case c2 => simp at hol2 ⊢; omega
            case c3 => simp [maxLen] at hol2 ⊢; omega
            case c4 => simp; omega
            intro A9 c9 w9 hO9 hG9
            have hbl : ∀ g, blk O = some g → lo ≤ g := fun g e => (hO7.out.blk_lt e).1
            have hb1 : blk O ≠ some bm := fun e => by have := hbl _ e; omega
            have hb2 : blk O ≠ some r := fun e => by have := hbl _ e; omega
            have hR9 := (hR8.out.kept (gr_alloc (World.grownBy.refl _ none) (.cells #[.int .i64 x.u, .int .i64 x.v] 63)) (by simp) (by simp)).kept hG9.1 hb1 hb2
            have hg9 := gr_row (gr_alloc hg8 (.cells #[.int .i64 x.u, .int .i64 x.v] 63)) hG9.1 (fun g e => by have := hbl g e; omega)
            have hlo9 := hG9.1.size
            simp at hlo9
            replace hR9 := hide hR9
            clear hG9 hR8 hMx hO hO7
            go_wp2
            go_roundw
            case rel => exact ⟨_, cn7, out ++ [x], A9, c9, by simp, hR9.out, hO9, hT2.out, by omega, hg9⟩
            case measure => rw [hR9.out.left, hleft]; exact hlt7

set_option maxHeartbeats 1000000 in
theorem openGo_any (A : Option Addr) (c : Nat) (vs : List V3) (B : Option Addr) (d : Nat) (fs : List Fc) (w : World) (hl : Sl w 0 A vs) (hfs : Sl w 0 B fs) (hM : meshF ⟨vs, fs⟩ = 0) :
    Calls Tryz.prog 7 #[.agg #[.slice A vs.length c, .slice B fs.length d]] w fun e w' => ∃ (l : List Sd) (O : Option Addr) (co : Nat), e = .returned (.tuple #[.slice O l.length co, .int .i64 0]) ∧ Own w' w.heap.size 63 O co l ∧ l.Perm (openS fs) ∧ SrtS l ∧ w.grownBy w' none := by
  have hok := meshOk.1 hM
  have hCM := fun W h1 h2 => checkMesh_any A c vs B d fs W h1 h2
  rw [hM] at hCM
  have hOp := fun W h1 => open_any A vs.length c B d fs W h1 hok.fl (fun s hs => by
    obtain ⟨f, hf, hs⟩ := List.mem_flatMap.1 hs
    exact sd_cell hok.vl (faceF_in (hok.face f hf)) s hs) hok.once
  replace hok := hide hok
  replace hM := hide hM
  have hg0 := gr_alloc (World.grownBy.refl w none) (.cells #[.slice A vs.length c, .slice B fs.length d] 29)
  go_enter Tryz.func7, Tryz.ntmps7
  go_wp2_with fail
  refine (hCM _ (hl.pure hg0) (hfs.pure hg0)).mono ?_
  rintro e w1 ⟨rfl, h1⟩
  have n0 := (h1).k (p := ⟨w.heap.size, 0, none⟩) (v := .slice A vs.length c) (by go_simp)
  have n1 := (h1).k (p := ⟨w.heap.size, 1, none⟩) (v := .slice B fs.length d) (by go_simp)
  replace h1 := gr_trans hg0 h1
  go_wp2_with fail
  refine (hOp _ (hfs.pure h1)).mono ?_
  rintro e w2 ⟨l, O, co, rfl, h2, h3, h4, h5⟩
  replace h3 := hide h3
  replace h4 := hide h4
  go_wp2_with fail
  go_ret2
  exact ⟨l, O, co, rfl, h2.lower h1.size, h3.out, h4.out, gr_trans h1 h5⟩

end Go.Proofs.YtkcchcnljanloaaGreat

/- Contracts of functions that this seat's laws reach, each: what one call returns and what it leaves in memory; no condition beyond each theorem's own hypotheses. -/
import Derived.Test.YtkcchcnljanloaaGreatZqMeshH
import Derived.Test.YtkcchcnljanloaaGreatShelf
set_option linter.unusedVariables false
set_option linter.unusedSimpArgs false
namespace Go.Proofs.YtkcchcnljanloaaGreat
open Go.RowKit Go.Bl

theorem lenBits_any (w : World) : Calls Tryz.prog 69 #[.int .u64 0] w fun e w' => e = .returned (.int .i64 0) ∧ w = w' :=
  (Tryz.bits_Len 0 w (by omega) (by omega)).mono fun _ _ ⟨he, hw⟩ => ⟨he, hw.symm⟩

set_option maxRecDepth 100000 in
theorem insNil_any (w : World) (f : Value) : Calls Tryz.prog 75 #[.slice none 0 0, .int .i64 0, .int .i64 0, f] w fun e w' => e = .returned (.tuple #[]) ∧ w = w' := by
  go_enter Tryz.func75, Tryz.ntmps75
  go_wp2_with fail
  refine wp_loop_once ?_
  go_wp2_with fail
  go_end0
  exact ⟨rfl, rfl⟩

set_option maxRecDepth 100000 in
theorem pdqNil_any (w : World) (f : Value) : Calls Tryz.prog 68 #[.slice none 0 0, .int .i64 0, .int .i64 0, .int .i64 0, f] w fun e w' => e = .returned (.tuple #[]) ∧ w = w' := by
  go_enter Tryz.func68, Tryz.ntmps68
  go_wp2_with fail
  refine wp_loop_once ?_
  go_wp2_with (go_at_call 75; refine (insNil_any _ _).mono ?_; rintro e w' ⟨rfl, rfl⟩)
  first
    | (go_ret; exact ⟨rfl, rfl⟩)
    | exact bodyPost_ret (v := .tuple #[]) rfl rfl ⟨rfl, rfl⟩
    | exact bodyPost_ret (v := .tuple #[]) (by simp [results, Tryz.results68]) rfl ⟨rfl, rfl⟩

set_option maxRecDepth 100000 in
theorem sortNil_any (w : World) (f : Value) : Calls Tryz.prog 45 #[.slice none 0 0, f] w fun e w' => e = .returned (.tuple #[]) ∧ w = w' := by
  go_enter Tryz.func45, Tryz.ntmps45
  go_wp2_with fail
  refine (lenBits_any _).mono ?_
  rintro e w' ⟨rfl, rfl⟩
  go_wp2_with fail
  refine (pdqNil_any _ _).mono ?_
  rintro e w' ⟨rfl, rfl⟩
  go_wp2_with fail
  go_end0
  exact ⟨rfl, rfl⟩

end Go.Proofs.YtkcchcnljanloaaGreat

namespace Go.Proofs.YtkcchcnljanloaaGreat
open Go.RowKit Go.Bl

def revS (s : Sd) : Sd := ⟨s.v, s.u⟩

theorem wpList_next_S (w : World) {ops : Array Oper} {rest : List Oper} {o : Oper} {a : Act} {Q : Exit → Act → World → Prop} (hg : o.guard = none) (it : Operand) (hop : o.op = Op.next it false) (b r n : Nat) (L : List Sd) (S : Sd → Prop) (cnt : Nat)
    (hit : a.eval it = .pointer (some ⟨r, 0, none⟩)) (h : RangeOf sideM w b r n (setS L) S cnt)
    (hDone : cnt = 0 → (∀ x, okS x → ¬ S x) → wpList Tryz.prog ops Q rest (a.put o.dst (.tuple #[.bool false])) w)
    (hMore : ∀ (x : Sd) (w' : World) (cnt' : Nat), okS x → S x → x ∈ L → RangeOf sideM w' b r n (setS L) (fun z => S z ∧ z ≠ x) cnt' → cnt' < cnt →
      w.grownBy w' (some r) → (Instr.entry (.pointer (some ⟨r, 0, none⟩))).run Tryz.prog w' = .ok (.tuple #[.agg #[.int .i64 x.u, .int .i64 x.v], .bool true]) w' → wpList Tryz.prog ops Q rest (a.put o.dst (.tuple #[.bool true, .agg #[.int .i64 x.u, .int .i64 x.v], .bool true])) w') :
    wpList Tryz.prog ops Q (o :: rest) a w := by
  refine wpList_next_M w sideM hg it hop b r n (setS L) S cnt hit h hDone ?_
  intro x c w' cnt' h1 h2 h3 h4 h5 h6 _ h8
  have hx : x ∈ L ∧ c = true := by
    unfold setS at h3
    by_cases h : x ∈ L
    · simp [h] at h3; exact ⟨h, h3⟩
    · simp [h] at h3
  obtain ⟨hx, rfl⟩ := hx
  exact hMore x w' cnt' h1 h2 hx h4 h5 h6 h8

set_option maxHeartbeats 4000000 in
set_option maxRecDepth 100000 in
theorem openNone_any (A : Option Addr) (n c : Nat) (B : Option Addr) (d : Nat) (fs : List Fc) (w : World) (hfs : Sl w 0 B fs) (hf1 : fs.length ≤ 1000) (hok0 : ∀ s ∈ allS fs, okS s) (hrev : ∀ s ∈ allS fs, revS s ∈ allS fs) :
    Calls Tryz.prog 38 #[.agg #[.slice A n c, .slice B fs.length d]] w fun e w' => e = .returned (.slice none 0 0) ∧ w.grownBy w' none := by
  have hm2 := hfs.1
  unfold maxLen at hm2
  replace hok0 := hide hok0
  replace hrev := hide hrev
  have hg0 := gr_alloc (World.grownBy.refl w none) (.cells #[.slice A n c, .slice B fs.length d] 29)
  have b1 := (Cell.new w [.slice A n c, .slice B fs.length d] 29 1 _ rfl _ rfl).1
  have hlt0 : w.heap.size < (w.alloc (.cells #[.slice A n c, .slice B fs.length d] 29)).heap.size := by simp
  have hmk := run_makeMap (P := Tryz.prog) 96 (w.alloc (.cells #[.slice A n c, .slice B fs.length d] 29))
  have hM0 := MapOf.made sideM (w.alloc (.cells #[.slice A n c, .slice B fs.length d] 29))
  have hge := gr_alloc (World.grownBy.refl (w.alloc (.cells #[.slice A n c, .slice B fs.length d] 29)) none) (.map #[] 0)
  rw [show (fun _ : Sd => (none : Option Bool)) = setS (allS (fs.take 0)) by funext z; simp [setS, allS]] at hM0
  replace hM0 := hide hM0
  have b3 := hge.k b1
  have hsz : (w.alloc (.cells #[.slice A n c, .slice B fs.length d] 29)).heap.size = w.heap.size + 1 := by simp
  rw [hsz] at hmk hM0 hlt0
  clear hsz
  go_enter Tryz.func38, Tryz.ntmps38
  go_wp2_with fail
  clear hmk b1
  have hgC := gr_trans hg0 hge
  generalize hWm : (w.alloc (.cells #[.slice A n c, .slice B fs.length d] 29)).alloc (.map #[] 0) = W3 at *
  generalize hbm : w.heap.size + 1 = bm at *
  have hgW3 := World.grownBy.refl W3 (some bm)
  clear hWm hge
  clear hg0 hbm
  go_loopw [14] (fun i wr => ∃ k : Nat, k ≤ fs.length ∧ i = .int .i64 k ∧ w.grownBy wr none ∧ W3.grownBy wr (some bm) ∧ MapOf sideM wr bm (3 * k) (setS (allS (fs.take k)))) (fun i _ => fs.length - (intOf i).toNat)
  case atStart => exact ⟨0, Nat.zero_le _, rfl, hgC, hgW3, hM0.out⟩
  case round =>
    obtain ⟨k, hk, rfl, hg, hgW, hM⟩ := hrel
    by_cases hlt : k < fs.length
    · have HS := hide (allS_snoc hlt)
      have hok : Hid (∀ s ∈ sdsOf fs[k], okS s) := fun s hs => hok0.out s (List.mem_flatMap.2 ⟨_, List.getElem_mem hlt, hs⟩)
      obtain ⟨g, o, cx, rfl, hb0, hb1, rfl, hc⟩ := (hfs.pure hg).at_ (by decide) hlt
      have v0 : wr.cell? ⟨g, o + k * 3, none⟩ = some (.int .i64 fs[k].a) := hc 0 _ rfl
      have v1 : wr.cell? ⟨g, o + k * 3 + 1, none⟩ = some (.int .i64 fs[k].b) := hc 1 _ rfl
      have v2 : wr.cell? ⟨g, o + k * 3 + 2, none⟩ = some (.int .i64 fs[k].c) := hc 2 _ rfl
      clear hc
      generalize fs[k] = f at *
      replace hM := hide hM
      go_wp2_with fail
      refine (sides_any f _).mono ?_
      rintro e w2 ⟨rfl, hg2⟩
      have hM2 := (hM.out.kept (gr_alloc (World.grownBy.refl wr none) (.cells #[.int .i64 f.a, .int .i64 f.b, .int .i64 f.c] 58)) (by simp)).kept hg2 (by simp)
      have hgw2 := gr_trans (gr_alloc hg (.cells #[.int .i64 f.a, .int .i64 f.b, .int .i64 f.c] 58)) hg2
      have hgW2 := gr_trans (gr_alloc hgW (.cells #[.int .i64 f.a, .int .i64 f.b, .int .i64 f.c] 58)) (gr_any hg2)
      clear hM v0 v1 v2 hg2 hg hgW hb0 hb1
      replace hM2 := hide hM2
      go_wp2_with fail
      generalize hL0 : allS (fs.take k) = L0 at *
      clear hL0
      go_loopw [20] (fun i wr => ∃ j : Nat, j ≤ 3 ∧ i = .int .i64 j ∧ w.grownBy wr none ∧ W3.grownBy wr (some bm) ∧ MapOf sideM wr bm (3 * k + j) (setS (L0 ++ (sdsOf f).take j))) (fun i _ => 3 - (intOf i).toNat)
      case atStart => exact ⟨0, by omega, rfl, hgw2, hgW2, by simpa using hM2.out⟩
      case round =>
        obtain ⟨j, hj, rfl, hg, hgW, hM⟩ := hrel
        by_cases hjt : j < 3
        · obtain rfl | rfl | rfl : j = 0 ∨ j = 1 ∨ j = 2 := by omega
          · have hix := index3_0 wr f.a f.b f.b f.c f.c f.a
            have hok1 : okS ⟨f.a, f.b⟩ := hok.out _ (by simp [sdsOf])
            have hMa := hM.kept (gr_alloc (World.grownBy.refl wr none) (.cells #[.int .i64 (f.a), .int .i64 (f.b)] 63)) (by simp)
            have hga := gr_alloc hg (.cells #[.int .i64 (f.a), .int .i64 (f.b)] 63)
            have hgWa := gr_alloc hgW (.cells #[.int .i64 (f.a), .int .i64 (f.b)] 63)
            have HL : L0 ++ (sdsOf f).take (0 + 1) = (L0 ++ (sdsOf f).take 0) ++ [⟨f.a, f.b⟩] := by simp [sdsOf]
            replace HL := hide HL
            generalize L0 ++ (sdsOf f).take 0 = L at *
            clear hM hg hgW HS
            replace hMa := hide hMa
            replace hok1 := hide hok1
            go_wp2_with (at_mapUpdate; refine wpList_store_S _ rfl _ _ _ rfl bm _ L rfl hMa.out (by simp [maxLen]; omega) ⟨f.a, f.b⟩ rfl rfl hok1.out ?_; intro w4 hM4 hg4)
            have hM5 := hide (show MapOf sideM w4 bm (3 * k + (0 + 1)) (setS (L0 ++ (sdsOf f).take (0 + 1))) by rw [HL.out]; exact hM4.mono (by omega))
            have hg5 := gr_new hga hg4 (by omega)
            have hg6 := gr_trans hgWa hg4
            clear hM4 HL
            go_roundw
            case rel => exact ⟨0 + 1, by omega, by go_num, hg5, hg6, hM5.out⟩
            case measure => simp [intOf]
          · have hix := index3_1 wr f.a f.b f.b f.c f.c f.a
            have hok1 : okS ⟨f.b, f.c⟩ := hok.out _ (by simp [sdsOf])
            have hMa := hM.kept (gr_alloc (World.grownBy.refl wr none) (.cells #[.int .i64 (f.b), .int .i64 (f.c)] 63)) (by simp)
            have hga := gr_alloc hg (.cells #[.int .i64 (f.b), .int .i64 (f.c)] 63)
            have hgWa := gr_alloc hgW (.cells #[.int .i64 (f.b), .int .i64 (f.c)] 63)
            have HL : L0 ++ (sdsOf f).take (1 + 1) = (L0 ++ (sdsOf f).take 1) ++ [⟨f.b, f.c⟩] := by simp [sdsOf]
            replace HL := hide HL
            generalize L0 ++ (sdsOf f).take 1 = L at *
            clear hM hg hgW HS
            replace hMa := hide hMa
            replace hok1 := hide hok1
            go_wp2_with (at_mapUpdate; refine wpList_store_S _ rfl _ _ _ rfl bm _ L rfl hMa.out (by simp [maxLen]; omega) ⟨f.b, f.c⟩ rfl rfl hok1.out ?_; intro w4 hM4 hg4)
            have hM5 := hide (show MapOf sideM w4 bm (3 * k + (1 + 1)) (setS (L0 ++ (sdsOf f).take (1 + 1))) by rw [HL.out]; exact hM4.mono (by omega))
            have hg5 := gr_new hga hg4 (by omega)
            have hg6 := gr_trans hgWa hg4
            clear hM4 HL
            go_roundw
            case rel => exact ⟨1 + 1, by omega, by go_num, hg5, hg6, hM5.out⟩
            case measure => simp [intOf]
          · have hix := index3_2 wr f.a f.b f.b f.c f.c f.a
            have hok1 : okS ⟨f.c, f.a⟩ := hok.out _ (by simp [sdsOf])
            have hMa := hM.kept (gr_alloc (World.grownBy.refl wr none) (.cells #[.int .i64 (f.c), .int .i64 (f.a)] 63)) (by simp)
            have hga := gr_alloc hg (.cells #[.int .i64 (f.c), .int .i64 (f.a)] 63)
            have hgWa := gr_alloc hgW (.cells #[.int .i64 (f.c), .int .i64 (f.a)] 63)
            have HL : L0 ++ (sdsOf f).take (2 + 1) = (L0 ++ (sdsOf f).take 2) ++ [⟨f.c, f.a⟩] := by simp [sdsOf]
            replace HL := hide HL
            generalize L0 ++ (sdsOf f).take 2 = L at *
            clear hM hg hgW HS
            replace hMa := hide hMa
            replace hok1 := hide hok1
            go_wp2_with (at_mapUpdate; refine wpList_store_S _ rfl _ _ _ rfl bm _ L rfl hMa.out (by simp [maxLen]; omega) ⟨f.c, f.a⟩ rfl rfl hok1.out ?_; intro w4 hM4 hg4)
            have hM5 := hide (show MapOf sideM w4 bm (3 * k + (2 + 1)) (setS (L0 ++ (sdsOf f).take (2 + 1))) by rw [HL.out]; exact hM4.mono (by omega))
            have hg5 := gr_new hga hg4 (by omega)
            have hg6 := gr_trans hgWa hg4
            clear hM4 HL
            go_roundw
            case rel => exact ⟨2 + 1, by omega, by go_num, hg5, hg6, hM5.out⟩
            case measure => simp [intOf]
        · have hj3 : j = 3 := by omega
          subst hj3
          have e3 : (sdsOf f).take 3 = sdsOf f := rfl
          rw [e3, ← HS.out] at hM
          replace hM := hide hM
          go_wp2
          (go_roundw; (case rel => exact ⟨k + 1, by omega, by go_num, hg, hgW, hM.out.mono (by omega)⟩); (case measure => simp [intOf]; omega))
    · rw [List.take_of_length_le (show fs.length ≤ k by omega)] at hM
      generalize allS fs = L at *
      clear hM0
      replace hM := hide hM
      go_wp2_with (at_range; refine wpList_range_M _ sideM rfl _ _ rfl Tryz.underlying96 bm _ _ rfl hM.out ?_; intro w5 cnt hR hg5 hs5 hcn)
      have hg6 := gr_trans hg hg5
      have hr0 : w.heap.size ≤ wr.heap.size := hg.size
      clear hM hg hgW hgW3 hgC hcn hs5 hg5 b3
      generalize wr.heap.size = r at *
      go_frame
      go_loopw [8] (fun o wr => ∃ (S : Sd → Prop) (cnt : Nat), o = .slice none 0 0 ∧ RangeOf sideM wr bm r (3 * k) (setS L) S cnt ∧ w.grownBy wr none) (fun _ wr => wr.rangeLeft bm r)
      case atStart => exact ⟨_, cnt, rfl, hR, hg6⟩
      case round =>
        obtain ⟨S, cn, rfl, hR1, hg1⟩ := hrel
        have hleft := hR1.left
        have hmap := hR1.map
        have hne := hR1.ne
        go_wp2_with (at_next; refine wpList_next_S _ rfl _ rfl bm r _ _ S cn rfl hR1 (fun _ _ => Hid.out ?_) (fun x w7 cn7 hox hSx hxL hR7 hlt7 hg7 hen => Hid.out ?_))
        · refine hide ?_
          go_wp2_with (go_at_call 45; refine (sortNil_any _ _).mono ?_; rintro e w' ⟨rfl, rfl⟩)
          go_ret
          exact ⟨rfl, (by repeat (first | exact World.grownBy.refl _ _ | assumption | refine gr_alloc ?_ _ | (apply gr_tail; assumption) | refine gr_drewN ?_ _ | refine gr_drew ?_))⟩
        · refine hide ?_
          have hok2 := hide (hok0.out _ (hrev.out x hxL))
          have hb : Hid (decide (revS x ∈ L) = true) := decide_eq_true (hrev.out x hxL)
          have hMx := hide (hR7.map.kept (gr_alloc (World.grownBy.refl w7 none) (.cells #[.int .i64 x.u, .int .i64 x.v] 63)) (by simp))
          have hR8 := hide (hR7.kept (gr_alloc (World.grownBy.refl w7 none) (.cells #[.int .i64 x.u, .int .i64 x.v] 63)) (by simp) (by simp))
          have hg8 := gr_alloc (gr_new hg1 hg7 hr0) (.cells #[.int .i64 x.u, .int .i64 x.v] 63)
          clear hR7 hSx hxL hR1 hmap
          go_wp2_with (at_lookup; refine wpList_lookup_S _ rfl _ _ rfl bm _ L rfl hMx.out (revS x) rfl hok2.out true hb.out ?_)
          go_roundw
          case rel => exact ⟨_, cn7, rfl, hR8.out, hg8⟩
          case measure => rw [hR8.out.left, hleft]; exact hlt7

end Go.Proofs.YtkcchcnljanloaaGreat

/- Contracts of functions that this seat's laws reach, each: what one call returns and what it leaves in memory; no condition beyond each theorem's own hypotheses. -/
import Derived.Test.YtcglkjpfnnehhaaGreatDoorZqMeshH
import Derived.Test.YtcglkjpfnnehhaaGreatDoorShelf
import Derived.Test.YtcglkjpfnnehhaaGreatDoorZqMeshData
set_option linter.unusedVariables false
set_option linter.unusedSimpArgs false
namespace Go.Proofs.YtcglkjpfnnehhaaGreatDoor
open Go.RowKit Go.Bl

theorem lenBits_any (w : World) : Calls Tryz.prog 133 #[.int .u64 0] w fun e w' => e = .returned (.int .i64 0) ∧ w = w' :=
  (Tryz.bits_Len 0 w (by omega) (by omega)).mono fun _ _ ⟨he, hw⟩ => ⟨he, hw.symm⟩

set_option maxRecDepth 100000 in
theorem insNil_any (w : World) (f : Value) : Calls Tryz.prog 186 #[.slice none 0 0, .int .i64 0, .int .i64 0, f] w fun e w' => e = .returned (.tuple #[]) ∧ w = w' := by
  go_enter Tryz.func186, Tryz.ntmps186
  go_wp2_with fail
  refine wp_loop_once ?_
  go_wp2_with fail
  go_end0
  exact ⟨rfl, rfl⟩

set_option maxRecDepth 100000 in
theorem pdqNil_any (w : World) (f : Value) : Calls Tryz.prog 161 #[.slice none 0 0, .int .i64 0, .int .i64 0, .int .i64 0, f] w fun e w' => e = .returned (.tuple #[]) ∧ w = w' := by
  go_enter Tryz.func161, Tryz.ntmps161
  go_wp2_with fail
  refine wp_loop_once ?_
  go_wp2_with (go_at_call 186; refine (insNil_any _ _).mono ?_; rintro e w' ⟨rfl, rfl⟩)
  first
    | (go_ret; exact ⟨rfl, rfl⟩)
    | exact bodyPost_ret (v := .tuple #[]) rfl rfl ⟨rfl, rfl⟩
    | exact bodyPost_ret (v := .tuple #[]) (by simp [results, Tryz.results161]) rfl ⟨rfl, rfl⟩

set_option maxRecDepth 100000 in
theorem sortNil_any (w : World) (f : Value) : Calls Tryz.prog 127 #[.slice none 0 0, f] w fun e w' => e = .returned (.tuple #[]) ∧ w = w' := by
  go_enter Tryz.func127, Tryz.ntmps127
  go_wp2_with fail
  refine (lenBits_any _).mono ?_
  rintro e w' ⟨rfl, rfl⟩
  go_wp2_with fail
  refine (pdqNil_any _ _).mono ?_
  rintro e w' ⟨rfl, rfl⟩
  go_wp2_with fail
  go_end0
  exact ⟨rfl, rfl⟩

end Go.Proofs.YtcglkjpfnnehhaaGreatDoor

namespace Go.Proofs.YtcglkjpfnnehhaaGreatDoor
open Go.RowKit Go.Bl

def revS (s : Sd) : Sd := ⟨s.v, s.u⟩

theorem wpList_next_S (w : World) {ops : Array Oper} {rest : List Oper} {o : Oper} {a : Act} {Q : Exit → Act → World → Prop} (hg : o.guard = none) (it : Operand) (hop : o.op = Op.next it false) (b r n : Nat) (L : List Sd) (S : Sd → Prop) (cnt : Nat)
    (hit : a.eval it = .pointer (some ⟨r, 0, none⟩)) (h : RangeOf sideM w b r n (setS L) S cnt)
    (hDone : cnt = 0 → (∀ x, okS x → ¬ S x) → wpList Tryz.prog ops Q rest (a.put o.dst (.tuple #[.bool false])) w)
    (hMore : ∀ (x : Sd) (w' : World) (cnt' : Nat), okS x → S x → x ∈ L → RangeOf sideM w' b r n (setS L) (fun z => S z ∧ z ≠ x) cnt' → cnt' < cnt →
      w.grownBy w' (some r) → (Instr.entry (.pointer (some ⟨r, 0, none⟩))).run Tryz.prog w' = .ok (.tuple #[.agg #[.int .i64 x.u, .int .i64 x.v], .bool true]) w' → wpList Tryz.prog ops Q rest (a.put o.dst (.tuple #[.bool true, .agg #[.int .i64 x.u, .int .i64 x.v], .bool true])) w') :
    wpList Tryz.prog ops Q (o :: rest) a w := by
  refine wpList_next_M w sideM hg it hop b r n (setS L) S cnt hit h hDone ?_
  intro x c w' cnt' h1 h2 h3 h4 h5 h6 _ h8
  have hx : x ∈ L ∧ c = true := by
    unfold setS at h3
    by_cases h : x ∈ L
    · simp [h] at h3; exact ⟨h, h3⟩
    · simp [h] at h3
  obtain ⟨hx, rfl⟩ := hx
  exact hMore x w' cnt' h1 h2 hx h4 h5 h6 h8

set_option maxHeartbeats 4000000 in
set_option maxRecDepth 100000 in
theorem openNone_any (A : Option Addr) (n c : Nat) (B : Option Addr) (d : Nat) (fs : List Fc) (w : World) (hfs : Sl w 0 B fs) (hf1 : fs.length ≤ 1000) (hok0 : ∀ s ∈ allS fs, okS s) (hrev : ∀ s ∈ allS fs, revS s ∈ allS fs) :
    Calls Tryz.prog 94 #[.agg #[.slice A n c, .slice B fs.length d]] w fun e w' => e = .returned (.slice none 0 0) ∧ w.grownBy w' none := by
  have hm2 := hfs.1
  unfold maxLen at hm2
  replace hok0 := hide hok0
  replace hrev := hide hrev
  have hg0 := gr_alloc (World.grownBy.refl w none) (.cells #[.slice A n c, .slice B fs.length d] 29)
  have b1 := (Cell.new w [.slice A n c, .slice B fs.length d] 29 1 _ rfl _ rfl).1
  have hlt0 : w.heap.size < (w.alloc (.cells #[.slice A n c, .slice B fs.length d] 29)).heap.size := by simp
  have hmk := run_makeMap (P := Tryz.prog) 65 (w.alloc (.cells #[.slice A n c, .slice B fs.length d] 29))
  have hM0 := MapOf.made sideM (w.alloc (.cells #[.slice A n c, .slice B fs.length d] 29))
  have hge := gr_alloc (World.grownBy.refl (w.alloc (.cells #[.slice A n c, .slice B fs.length d] 29)) none) (.map #[] 0)
  rw [show (fun _ : Sd => (none : Option Bool)) = setS (allS (fs.take 0)) by funext z; simp [setS, allS]] at hM0
  replace hM0 := hide hM0
  have b3 := hge.k b1
  have hsz : (w.alloc (.cells #[.slice A n c, .slice B fs.length d] 29)).heap.size = w.heap.size + 1 := by simp
  rw [hsz] at hmk hM0 hlt0
  clear hsz
  go_enter Tryz.func94, Tryz.ntmps94
  go_wp2_with fail
  clear hmk b1
  have hgC := gr_trans hg0 hge
  generalize hWm : (w.alloc (.cells #[.slice A n c, .slice B fs.length d] 29)).alloc (.map #[] 0) = W3 at *
  generalize hbm : w.heap.size + 1 = bm at *
  have hgW3 := World.grownBy.refl W3 (some bm)
  clear hWm hge
  clear hg0 hbm
  go_loopw [14] (fun i wr => ∃ k : Nat, k ≤ fs.length ∧ i = .int .i64 k ∧ w.grownBy wr none ∧ W3.grownBy wr (some bm) ∧ MapOf sideM wr bm (3 * k) (setS (allS (fs.take k)))) (fun i _ => fs.length - (intOf i).toNat)
  case atStart => exact ⟨0, Nat.zero_le _, rfl, hgC, hgW3, hM0.out⟩
  case round =>
    obtain ⟨k, hk, rfl, hg, hgW, hM⟩ := hrel
    by_cases hlt : k < fs.length
    · have HS := hide (allS_snoc hlt)
      have hok : Hid (∀ s ∈ sdsOf fs[k], okS s) := fun s hs => hok0.out s (List.mem_flatMap.2 ⟨_, List.getElem_mem hlt, hs⟩)
      obtain ⟨g, o, cx, rfl, hb0, hb1, rfl, hc⟩ := (hfs.pure hg).at_ (by decide) hlt
      have v0 : wr.cell? ⟨g, o + k * 3, none⟩ = some (.int .i64 fs[k].a) := hc 0 _ rfl
      have v1 : wr.cell? ⟨g, o + k * 3 + 1, none⟩ = some (.int .i64 fs[k].b) := hc 1 _ rfl
      have v2 : wr.cell? ⟨g, o + k * 3 + 2, none⟩ = some (.int .i64 fs[k].c) := hc 2 _ rfl
      clear hc
      generalize fs[k] = f at *
      replace hM := hide hM
      go_wp2_with fail
      refine (sides_any f _).mono ?_
      rintro e w2 ⟨rfl, hg2⟩
      have hM2 := (hM.out.kept (gr_alloc (World.grownBy.refl wr none) (.cells #[.int .i64 f.a, .int .i64 f.b, .int .i64 f.c] 51)) (by simp)).kept hg2 (by simp)
      have hgw2 := gr_trans (gr_alloc hg (.cells #[.int .i64 f.a, .int .i64 f.b, .int .i64 f.c] 51)) hg2
      have hgW2 := gr_trans (gr_alloc hgW (.cells #[.int .i64 f.a, .int .i64 f.b, .int .i64 f.c] 51)) (gr_any hg2)
      clear hM v0 v1 v2 hg2 hg hgW hb0 hb1
      replace hM2 := hide hM2
      go_wp2_with fail
      generalize hL0 : allS (fs.take k) = L0 at *
      clear hL0
      go_loopw [20] (fun i wr => ∃ j : Nat, j ≤ 3 ∧ i = .int .i64 j ∧ w.grownBy wr none ∧ W3.grownBy wr (some bm) ∧ MapOf sideM wr bm (3 * k + j) (setS (L0 ++ (sdsOf f).take j))) (fun i _ => 3 - (intOf i).toNat)
      case atStart => exact ⟨0, by omega, rfl, hgw2, hgW2, by simpa using hM2.out⟩
      case round =>
        obtain ⟨j, hj, rfl, hg, hgW, hM⟩ := hrel
        by_cases hjt : j < 3
        · obtain rfl | rfl | rfl : j = 0 ∨ j = 1 ∨ j = 2 := by omega
          · have hix := index3_0 wr f.a f.b f.b f.c f.c f.a
            have hok1 : okS ⟨f.a, f.b⟩ := hok.out _ (by simp [sdsOf])
            have hMa := hM.kept (gr_alloc (World.grownBy.refl wr none) (.cells #[.int .i64 (f.a), .int .i64 (f.b)] 62)) (by simp)
            have hga := gr_alloc hg (.cells #[.int .i64 (f.a), .int .i64 (f.b)] 62)
            have hgWa := gr_alloc hgW (.cells #[.int .i64 (f.a), .int .i64 (f.b)] 62)
            have HL : L0 ++ (sdsOf f).take (0 + 1) = (L0 ++ (sdsOf f).take 0) ++ [⟨f.a, f.b⟩] := by simp [sdsOf]
            replace HL := hide HL
            generalize L0 ++ (sdsOf f).take 0 = L at *
            clear hM hg hgW HS
            replace hMa := hide hMa
            replace hok1 := hide hok1
            go_wp2_with (at_mapUpdate; refine wpList_store_S _ rfl _ _ _ rfl bm _ L rfl hMa.out (by simp [maxLen]; omega) ⟨f.a, f.b⟩ rfl rfl hok1.out ?_; intro w4 hM4 hg4)
            have hM5 := hide (show MapOf sideM w4 bm (3 * k + (0 + 1)) (setS (L0 ++ (sdsOf f).take (0 + 1))) by rw [HL.out]; exact hM4.mono (by omega))
            have hg5 := gr_new hga hg4 (by omega)
            have hg6 := gr_trans hgWa hg4
            clear hM4 HL
            go_roundw
            case rel => exact ⟨0 + 1, by omega, by go_num, hg5, hg6, hM5.out⟩
            case measure => simp [intOf]
          · have hix := index3_1 wr f.a f.b f.b f.c f.c f.a
            have hok1 : okS ⟨f.b, f.c⟩ := hok.out _ (by simp [sdsOf])
            have hMa := hM.kept (gr_alloc (World.grownBy.refl wr none) (.cells #[.int .i64 (f.b), .int .i64 (f.c)] 62)) (by simp)
            have hga := gr_alloc hg (.cells #[.int .i64 (f.b), .int .i64 (f.c)] 62)
            have hgWa := gr_alloc hgW (.cells #[.int .i64 (f.b), .int .i64 (f.c)] 62)
            have HL : L0 ++ (sdsOf f).take (1 + 1) = (L0 ++ (sdsOf f).take 1) ++ [⟨f.b, f.c⟩] := by simp [sdsOf]
            replace HL := hide HL
            generalize L0 ++ (sdsOf f).take 1 = L at *
            clear hM hg hgW HS
            replace hMa := hide hMa
            replace hok1 := hide hok1
            go_wp2_with (at_mapUpdate; refine wpList_store_S _ rfl _ _ _ rfl bm _ L rfl hMa.out (by simp [maxLen]; omega) ⟨f.b, f.c⟩ rfl rfl hok1.out ?_; intro w4 hM4 hg4)
            have hM5 := hide (show MapOf sideM w4 bm (3 * k + (1 + 1)) (setS (L0 ++ (sdsOf f).take (1 + 1))) by rw [HL.out]; exact hM4.mono (by omega))
            have hg5 := gr_new hga hg4 (by omega)
            have hg6 := gr_trans hgWa hg4
            clear hM4 HL
            go_roundw
            case rel => exact ⟨1 + 1, by omega, by go_num, hg5, hg6, hM5.out⟩
            case measure => simp [intOf]
          · have hix := index3_2 wr f.a f.b f.b f.c f.c f.a
            have hok1 : okS ⟨f.c, f.a⟩ := hok.out _ (by simp [sdsOf])
            have hMa := hM.kept (gr_alloc (World.grownBy.refl wr none) (.cells #[.int .i64 (f.c), .int .i64 (f.a)] 62)) (by simp)
            have hga := gr_alloc hg (.cells #[.int .i64 (f.c), .int .i64 (f.a)] 62)
            have hgWa := gr_alloc hgW (.cells #[.int .i64 (f.c), .int .i64 (f.a)] 62)
            have HL : L0 ++ (sdsOf f).take (2 + 1) = (L0 ++ (sdsOf f).take 2) ++ [⟨f.c, f.a⟩] := by simp [sdsOf]
            replace HL := hide HL
            generalize L0 ++ (sdsOf f).take 2 = L at *
            clear hM hg hgW HS
            replace hMa := hide hMa
            replace hok1 := hide hok1
            go_wp2_with (at_mapUpdate; refine wpList_store_S _ rfl _ _ _ rfl bm _ L rfl hMa.out (by simp [maxLen]; omega) ⟨f.c, f.a⟩ rfl rfl hok1.out ?_; intro w4 hM4 hg4)
            have hM5 := hide (show MapOf sideM w4 bm (3 * k + (2 + 1)) (setS (L0 ++ (sdsOf f).take (2 + 1))) by rw [HL.out]; exact hM4.mono (by omega))
            have hg5 := gr_new hga hg4 (by omega)
            have hg6 := gr_trans hgWa hg4
            clear hM4 HL
            go_roundw
            case rel => exact ⟨2 + 1, by omega, by go_num, hg5, hg6, hM5.out⟩
            case measure => simp [intOf]
        · have hj3 : j = 3 := by omega
          subst hj3
          have e3 : (sdsOf f).take 3 = sdsOf f := rfl
          rw [e3, ← HS.out] at hM
          replace hM := hide hM
          go_wp2
          (go_roundw; (case rel => exact ⟨k + 1, by omega, by go_num, hg, hgW, hM.out.mono (by omega)⟩); (case measure => simp [intOf]; omega))
    · rw [List.take_of_length_le (show fs.length ≤ k by omega)] at hM
      generalize allS fs = L at *
      clear hM0
      replace hM := hide hM
      go_wp2_with (at_range; refine wpList_range_M _ sideM rfl _ _ rfl Tryz.underlying65 bm _ _ rfl hM.out ?_; intro w5 cnt hR hg5 hs5 hcn)
      have hg6 := gr_trans hg hg5
      have hr0 : w.heap.size ≤ wr.heap.size := hg.size
      clear hM hg hgW hgW3 hgC hcn hs5 hg5 b3
      generalize wr.heap.size = r at *
      go_frame
      go_loopw [8] (fun o wr => ∃ (S : Sd → Prop) (cnt : Nat), o = .slice none 0 0 ∧ RangeOf sideM wr bm r (3 * k) (setS L) S cnt ∧ w.grownBy wr none) (fun _ wr => wr.rangeLeft bm r)
      case atStart => exact ⟨_, cnt, rfl, hR, hg6⟩
      case round =>
        obtain ⟨S, cn, rfl, hR1, hg1⟩ := hrel
        have hleft := hR1.left
        have hmap := hR1.map
        have hne := hR1.ne
        go_wp2_with (at_next; refine wpList_next_S _ rfl _ rfl bm r _ _ S cn rfl hR1 (fun _ _ => Hid.out ?_) (fun x w7 cn7 hox hSx hxL hR7 hlt7 hg7 hen => Hid.out ?_))
        · refine hide ?_
          go_wp2_with (go_at_call 127; refine (sortNil_any _ _).mono ?_; rintro e w' ⟨rfl, rfl⟩)
          go_ret
          exact ⟨rfl, (by repeat (first | exact World.grownBy.refl _ _ | assumption | refine gr_alloc ?_ _ | (apply gr_tail; assumption) | refine gr_drewN ?_ _ | refine gr_drew ?_))⟩
        · refine hide ?_
          have hok2 := hide (hok0.out _ (hrev.out x hxL))
          have hb : Hid (decide (revS x ∈ L) = true) := decide_eq_true (hrev.out x hxL)
          have hMx := hide (hR7.map.kept (gr_alloc (World.grownBy.refl w7 none) (.cells #[.int .i64 x.u, .int .i64 x.v] 62)) (by simp))
          have hR8 := hide (hR7.kept (gr_alloc (World.grownBy.refl w7 none) (.cells #[.int .i64 x.u, .int .i64 x.v] 62)) (by simp) (by simp))
          have hg8 := gr_alloc (gr_new hg1 hg7 hr0) (.cells #[.int .i64 x.u, .int .i64 x.v] 62)
          clear hR7 hSx hxL hR1 hmap
          go_wp2_with (at_lookup; refine wpList_lookup_S _ rfl _ _ rfl bm _ L rfl hMx.out (revS x) rfl hok2.out true hb.out ?_)
          go_roundw
          case rel => exact ⟨_, cn7, rfl, hR8.out, hg8⟩
          case measure => rw [hR8.out.left, hleft]; exact hlt7

end Go.Proofs.YtcglkjpfnnehhaaGreatDoor

namespace Go.Proofs.YtcglkjpfnnehhaaGreatDoor
open Go.RowKit Go.Bl

def pyrV : List V3 := [⟨0, 0, 0⟩, ⟨6, 0, 0⟩, ⟨0, 6, 0⟩, ⟨0, 0, 6⟩]

def pyrF : List Fc := [⟨0, 2, 1⟩, ⟨0, 1, 3⟩, ⟨1, 2, 3⟩, ⟨0, 3, 2⟩]

set_option maxHeartbeats 1000000 in
set_option maxRecDepth 100000 in
theorem pyramid_any (w : World) : Calls Tryz.prog 49 #[] w fun e w' => ∃ A B, e = .returned (.agg #[.slice A 4 4, .slice B 4 4]) ∧ Sl w' 0 A pyrV ∧ Sl w' 0 B pyrF ∧ w.grownBy w' none := by
  go_enter Tryz.func49, Tryz.ntmps49
  go_wp2_with fail
  refine bodyPost_ret (v := .agg #[.slice (some ⟨w.heap.size + 1, 0, none⟩) 4 4, .slice (some ⟨w.heap.size + 1 + 1, 0, none⟩) 4 4]) (by simp [results, Tryz.results49, go_sem]) rfl ⟨_, _, rfl, ?_, ?_, ?_⟩
  · exact (sl_litAt _ 0 _ 46 pyrV _ (by simp) (Nat.zero_le _) (by simp [pyrV, maxLen]) ⟨_, _, rfl, rfl, _, _, rfl, rfl, _, _, rfl, rfl, _, _, rfl, rfl, rfl⟩).pure (gr_alloc (World.grownBy.refl _ _) _)
  · exact sl_litAt _ 0 _ 51 pyrF _ (by simp) (Nat.zero_le _) (by simp [pyrF, maxLen]) ⟨_, _, rfl, rfl, _, _, rfl, rfl, _, _, rfl, rfl, _, _, rfl, rfl, rfl⟩
  · exact (by repeat (first | exact World.grownBy.refl _ _ | assumption | refine gr_alloc ?_ _ | (apply gr_tail; assumption) | refine gr_drewN ?_ _ | refine gr_drew ?_))

theorem pyr_ok : meshF ⟨pyrV, pyrF⟩ = 0 := by decide

theorem pyr_side : ∀ s ∈ allS pyrF, okS s := by
  intro s hs
  simp only [allS, pyrF, sdsOf, List.flatMap_cons, List.flatMap_nil, List.cons_append, List.nil_append, List.append_nil, List.mem_cons, List.not_mem_nil, or_false] at hs
  rcases hs with rfl | rfl | rfl | rfl | rfl | rfl | rfl | rfl | rfl | rfl | rfl | rfl <;> exact ⟨by decide, by decide⟩

theorem pyr_rev : ∀ s ∈ allS pyrF, revS s ∈ allS pyrF := by decide

set_option maxHeartbeats 1000000 in
theorem closedPyr_any (A B : Option Addr) (w : World) (hA : Sl w 0 A pyrV) (hB : Sl w 0 B pyrF) : Calls Tryz.prog 70 #[.agg #[.slice A 4 4, .slice B 4 4]] w fun e w' => e = .returned (.int .i64 0) ∧ w.grownBy w' none := by
  have hg0 := gr_alloc (World.grownBy.refl w none) (.cells #[.slice A 4 4, .slice B 4 4] 29)
  have b0 := Cell.new w [.slice A 4 4, .slice B 4 4] 29 0 _ rfl _ rfl
  have b1 := Cell.new w [.slice A 4 4, .slice B 4 4] 29 1 _ rfl _ rfl
  go_enter Tryz.func70, Tryz.ntmps70
  go_wp2_with fail
  refine (checkMesh_any A 4 pyrV B 4 pyrF _ (hA.pure hg0) (hB.pure hg0)).mono ?_
  rintro e w1 ⟨rfl, hg1⟩
  rw [pyr_ok]
  have b0 := (b0.gr hg1 (by simp)).1
  have b1 := (b1.gr hg1 (by simp)).1
  have hg2 := gr_trans hg0 hg1
  go_wp2_with fail
  refine (openNone_any A 4 4 B 4 pyrF _ (hB.pure hg2) (by decide) pyr_side pyr_rev).mono ?_
  rintro e w2 ⟨rfl, hg3⟩
  go_wp2_with fail
  go_ret
  exact ⟨rfl, gr_trans hg2 hg3⟩

def partV (vs : List V3) (f : Fc) : Int := dotV (atV vs f.a) (crossV (atV vs f.b) (atV vs f.c))

set_option maxHeartbeats 2000000 in
set_option maxRecDepth 100000 in
theorem part_any (A : Option Addr) (c : Nat) (vs : List V3) (B : Option Addr) (m d : Nat) (f : Fc) (w : World) (hl : Sl w 0 A vs) (hf : vs.any farV = false) (hin : inF vs.length f = true) :
    Calls Tryz.prog 71 #[.agg #[.slice A vs.length c, .slice B m d], .agg #[.int .i64 f.a, .int .i64 f.b, .int .i64 f.c]] w fun e w' => e = .returned (.int .i64 (partV vs f)) ∧ w.grownBy w' none := by
  have ba := atV_bd hf f.a
  have bb := atV_bd hf f.b
  have bc := atV_bd hf f.c
  have hN : Hid (partV vs f = dotV (atV vs f.a) (crossV (atV vs f.b) (atV vs f.c))) := rfl
  generalize partV vs f = N at *
  clear hf
  have hm := hl.1
  unfold maxLen at hm
  obtain ⟨i, j, k, hi, hj, hk, rfl, ea, eb, ec⟩ := inF_at hin
  rw [ea] at ba hN
  rw [eb] at bb hN
  rw [ec] at bc hN
  clear ea eb ec hin
  obtain ⟨g, o, rfl, hb0, hb1, hcell⟩ := hl.v3 (by omega)
  obtain ⟨x0, x1, x2⟩ := hcell i hi
  obtain ⟨y0, y1, y2⟩ := hcell j hj
  obtain ⟨z0, z1, z2⟩ := hcell k hk
  clear hcell
  have hb2 : g < w.heap.size + 1 := by omega
  have hb3 : g < w.heap.size + 1 + 1 := by omega
  have hb4 : g < w.heap.size + 1 + 1 + 1 := by omega
  generalize vs[i] = va at *
  generalize vs[j] = vb at *
  generalize vs[k] = vc at *
  generalize vs.length = n at *
  go_enter Tryz.func71, Tryz.ntmps71
  go_wp2_with fail
  obtain ⟨W, hW⟩ : ∃ W, W = (w.alloc (.cells #[.slice (some ⟨g, o, none⟩) n c, .slice B m d] 29)).alloc (.cells #[.int .i64 i, .int .i64 j, .int .i64 k] 51) := ⟨_, rfl⟩
  have hg : w.grownBy W none := by rw [hW]; exact (by repeat (first | exact World.grownBy.refl _ _ | assumption | refine gr_alloc ?_ _ | (apply gr_tail; assumption) | refine gr_drewN ?_ _ | refine gr_drew ?_))
  have b0 : W.cell? ⟨w.heap.size, 0, none⟩ = some (.slice (some ⟨g, o, none⟩) n c) := by rw [hW]; go_simp
  have b3 : W.cell? ⟨w.heap.size + 1, 0, none⟩ = some (.int .i64 i) := by rw [hW]; go_simp
  have b4 : W.cell? ⟨w.heap.size + 1, 1, none⟩ = some (.int .i64 j) := by rw [hW]; go_simp
  have b5 : W.cell? ⟨w.heap.size + 1, 2, none⟩ = some (.int .i64 k) := by rw [hW]; go_simp
  rw [← hW]
  clear hW
  replace x0 := hg.k x0
  replace x1 := hg.k x1
  replace x2 := hg.k x2
  replace y0 := hg.k y0
  replace y1 := hg.k y1
  replace y2 := hg.k y2
  replace z0 := hg.k z0
  replace z1 := hg.k z1
  replace z2 := hg.k z2
  refine wp_region_fix 20 ((fun wx => W.grownBy wx none)) (by kernel_rfl) (by kernel_rfl) (gr_drew (World.grownBy.refl _ _)) ?_
  simp only [List.take_succ_cons, List.take_zero, List.drop_succ_cons, List.drop_zero]
  iterate 18 ((refine fix_b (fun K hK => ?_); apply Exists.intro; refine ⟨fun wx hC K' hK' => ?_, ?_⟩; (focus (replace hK' := hide hK'; (have d0 := hC.k b0; have d3 := hC.k b3; have d4 := hC.k b4; have d5 := hC.k b5; have d6 := hC.k x0; have d7 := hC.k x1; have d8 := hC.k x2; have d9 := hC.k y0; have e1 := hC.k y1; have e2 := hC.k y2; have e3 := hC.k z0; have e4 := hC.k z1; have e5 := hC.k z2); go_wp2_with fail; exact hK'.out _ hC)); go_simp; refine hK _ ?_; clear hK K))
  (refine fix_b (fun K hK => ?_); apply Exists.intro; refine ⟨fun wx hC K' hK' => ?_, ?_⟩; (focus (replace hK' := hide hK'; skip; go_wp2_with fail; (refine (cross_any vb vc _ (bb.mono (by decide)) (bc.mono (by decide))).mono ?_; rintro e w' ⟨rfl, hg'⟩; go_wp2_with fail; exact hK'.out _ (gr_trans hC hg')))); go_simp; refine hK _ ?_; clear hK K)
  (refine fix_b (fun K hK => ?_); apply Exists.intro; refine ⟨fun wx hC K' hK' => ?_, ?_⟩; (focus (replace hK' := hide hK'; skip; go_wp2_with fail; (refine (dot_any va (crossV vb vc) _ ba ((bb.cross bc).mono (by decide))).mono ?_; rintro e w' ⟨rfl, hg'⟩; go_wp2_with fail; exact hK'.out _ (gr_trans hC hg')))); go_simp; refine hK _ ?_; clear hK K)
  refine fix_nil ?_
  intro wz hC
  go_wp2_with fail
  go_ret
  exact ⟨ret_int hN.out.symm, gr_trans hg hC⟩

end Go.Proofs.YtcglkjpfnnehhaaGreatDoor

namespace Go.Proofs.YtcglkjpfnnehhaaGreatDoor
open Go.RowKit Go.Bl

def volK (k : Nat) : Int := ((pyrF.take k).map (partV pyrV)).sum

def pyrAt (k : Nat) : Fc := pyrF.getD k ⟨0, 0, 0⟩

theorem volK_succ : ∀ k, k < 4 → volK (k + 1) = volK k + partV pyrV (pyrAt k) ∧ (-1000 ≤ volK k ∧ volK k ≤ 1000) ∧ (-1000 ≤ partV pyrV (pyrAt k) ∧ partV pyrV (pyrAt k) ≤ 1000) ∧ inF pyrV.length (pyrAt k) = true := by decide

set_option maxHeartbeats 2000000 in
set_option maxRecDepth 100000 in
theorem volumePyr_any (A B : Option Addr) (w : World) (hA : Sl w 0 A pyrV) (hB : Sl w 0 B pyrF) : Calls Tryz.prog 48 #[.agg #[.slice A 4 4, .slice B 4 4]] w fun e w' => e = .returned (.tuple #[.int .i64 216, .int .i64 0]) ∧ w.grownBy w' none := by
  have hg0 := gr_alloc (World.grownBy.refl w none) (.cells #[.slice A 4 4, .slice B 4 4] 29)
  have b0 := Cell.new w [.slice A 4 4, .slice B 4 4] 29 0 _ rfl _ rfl
  have b1 := Cell.new w [.slice A 4 4, .slice B 4 4] 29 1 _ rfl _ rfl
  go_enter Tryz.func48, Tryz.ntmps48
  go_wp2_with fail
  refine (closedPyr_any A B _ (hA.pure hg0) (hB.pure hg0)).mono ?_
  rintro e w1 ⟨rfl, hg1⟩
  have b0 := (b0.gr hg1 (by simp)).1
  have b1 := (b1.gr hg1 (by simp)).1
  have hg2 := gr_trans hg0 hg1
  clear hg0 hg1
  go_wp2_with fail
  have hW := World.grownBy.refl w1 none
  go_loopw [5, 16] (fun o i wr => ∃ k : Nat, k ≤ 4 ∧ i = .int .i64 k ∧ o = .int .i64 (volK k) ∧ w.grownBy wr none ∧ w1.grownBy wr none) (fun _ i _ => 4 - (intOf i).toNat)
  case atStart => exact ⟨0, by omega, rfl, rfl, hg2, hW⟩
  case round =>
    obtain ⟨k, hk, rfl, rfl, hg, hgW⟩ := hrel
    by_cases hlt : k < 4
    · obtain ⟨hv1, hv2, hv3, hv4⟩ := volK_succ k hlt
      have d0 := hgW.k b0
      have d1 := hgW.k b1
      have hlt0 : w.heap.size < wr.heap.size := cell_lt d0
      obtain ⟨g, o, rfl, hb0, hb1, hc⟩ := (hB.pure hg).fc (by decide)
      have hlt' : k < pyrF.length := hlt
      have hpe : pyrF[k] = pyrAt k := by simp [pyrAt, hlt']
      obtain ⟨v0, v1, v2⟩ := hc k hlt'
      rw [hpe] at v0 v1 v2
      clear hpe
      clear hc
      replace hv1 := hide hv1
      replace hv4 := hide hv4
      generalize pyrAt k = f at *
      go_wp2_with fail
      refine (part_any A 4 pyrV _ 4 4 f _ (hA.pure (gr_alloc hg _)) (by decide) hv4.out).mono ?_
      rintro e w' ⟨rfl, hg'⟩
      generalize partV pyrV f = X at *
      generalize hVk : volK k = V at *
      go_wp2_with fail
      (go_roundw; (case rel => exact ⟨k + 1, by omega, by go_num, by rw [hv1.out], (by repeat (first | exact World.grownBy.refl _ _ | assumption | refine gr_alloc ?_ _ | (apply gr_tail; assumption) | refine gr_drewN ?_ _ | refine gr_drew ?_)), (by repeat (first | exact World.grownBy.refl _ _ | assumption | refine gr_alloc ?_ _ | (apply gr_tail; assumption) | refine gr_drewN ?_ _ | refine gr_drew ?_))⟩); (case measure => simp [intOf]; omega))
    · have hk4 : k = 4 := by omega
      subst hk4
      rw [show volK 4 = 216 by decide]
      go_wp2
      exact bodyPost_ret (v := .tuple #[.int .i64 216, .int .i64 0]) (by simp [results, Tryz.results48, go_sem]) rfl ⟨rfl, hg⟩

theorem meshed_any (w : World) : Calls Tryz.prog 15 #[] w fun e w' => e = .returned (.bool true) ∧ w.grownBy w' none := by
  go_enter Tryz.func15, Tryz.ntmps15
  go_wp2_with fail
  refine (pyramid_any _).mono ?_
  rintro e w1 ⟨A, B, rfl, hA, hB, hg1⟩
  go_wp2_with fail
  refine (volumePyr_any A B _ hA hB).mono ?_
  rintro e w2 ⟨rfl, hg2⟩
  go_wp2_with fail
  go_ret
  exact ⟨rfl, gr_trans hg1 hg2⟩

end Go.Proofs.YtcglkjpfnnehhaaGreatDoor

namespace Go.Proofs.YtcglkjpfnnehhaaGreatDoor
open Go.RowKit Go.Bl

def SVec (b : Nat) (N : Int) (w : World) (e : Ending) (w' : World) : Prop := ∃ v : V3, e = .returned (.agg #[.int .i64 v.x, .int .i64 v.y, .int .i64 v.z]) ∧ Bd 1000000000000000 v ∧ SOut b N w w'

set_option maxHeartbeats 2000000 in
theorem aVec_any (b : Nat) (N : Int) (w : World) (hs : Strm w b N) (hN : N ≤ 1000000000) :
    Calls Tryz.prog 20 #[.pointer (some ⟨b, 0, none⟩)] w (SVec b (N + 6) w) := by
  have hbw := hs.lt
  have ho0 : SOut b N w (w.alloc (.cells #[.int .i64 0, .int .i64 0, .int .i64 0] 46)) := (SOut.refl hs).pure (gr_alloc (World.grownBy.refl _ _) _)
  have q0 := Cell.new w [.int .i64 0, .int .i64 0, .int .i64 0] 46 0 _ rfl _ rfl
  have q1 := Cell.new w [.int .i64 0, .int .i64 0, .int .i64 0] 46 1 _ rfl _ rfl
  have q2 := Cell.new w [.int .i64 0, .int .i64 0, .int .i64 0] 46 2 _ rfl _ rfl
  obtain ⟨W, hW⟩ : ∃ W, W = w.alloc (.cells #[.int .i64 0, .int .i64 0, .int .i64 0] 46) := ⟨_, rfl⟩
  simp only [List.toArray] at q0 q1 q2
  rw [← hW] at ho0 q0 q1 q2
  have hWs : W.heap.size = w.heap.size + 1 := by rw [hW]; simp
  have hoW : SOut b N W W := SOut.refl ho0.2
  have hbW : b < W.heap.size := by omega
  have hne : (some b : Option Nat) ≠ some w.heap.size := by simp; omega
  replace hW := hide hW.symm
  replace q0 := hide q0
  replace q1 := hide q1
  replace q2 := hide q2
  have hWt : Hid (w.heap.size + 1 = W.heap.size) := hWs.symm
  replace hWs := hide hWs
  go_enter Tryz.func20, Tryz.ntmps20
  go_wp2_with fail
  rw [hW.out]
  refine (pick_any b (N) _ _ _ [0, 1, 3, -5, 100] _ ((hoW).2.pure (gr_alloc (World.grownBy.refl _ _) _)) (by omega) (sl_intsAt _ _ _ _ _ (by first | rfl | exact hWt.out | simp) (by have := (hoW).lt; omega) (by simp [maxLen])) rfl (by simp)).mono ?_
  rintro e w1 ⟨r1, rfl, hr1, ho1⟩
  have hoA := (hoW.pure (gr_alloc (World.grownBy.refl _ _) _)).trans ho1
  have b1 : Hid (-1000000000000000 ≤ r1 ∧ r1 ≤ 1000000000000000) := by simp at hr1; simp only [Hid]; omega
  clear hr1 ho1
  go_wp2_with fail
  refine (pick_any b (N + 1) _ _ _ [0, 2, -7, 50] _ ((hoA).2.pure (gr_alloc (World.grownBy.refl _ _) _)) (by omega) (sl_intsAt _ _ _ _ _ (by first | rfl | exact hWt.out | simp) (by have := (hoA).lt; omega) (by simp [maxLen])) rfl (by simp)).mono ?_
  rintro e w2 ⟨r2, rfl, hr2, ho2⟩
  have hoB := (hoA.pure (gr_alloc (World.grownBy.refl _ _) _)).trans ho2
  have b2 : Hid (-1000000000000000 ≤ r2 ∧ r2 ≤ 1000000000000000) := by simp at hr2; simp only [Hid]; omega
  clear hr2 ho2
  go_wp2_with fail
  refine (pick_any b (N + 1 + 1) _ _ _ [0, 0, 4, -2, 20] _ ((hoB).2.pure (gr_alloc (World.grownBy.refl _ _) _)) (by omega) (sl_intsAt _ _ _ _ _ (by first | rfl | exact hWt.out | simp) (by have := (hoB).lt; omega) (by simp [maxLen])) rfl (by simp)).mono ?_
  rintro e w3 ⟨r3, rfl, hr3, ho3⟩
  have hoC := (hoB.pure (gr_alloc (World.grownBy.refl _ _) _)).trans ho3
  have b3 : Hid (-1000000000000000 ≤ r3 ∧ r3 ≤ 1000000000000000) := by simp at hr3; simp only [Hid]; omega
  clear hr3 ho3 hoA hoB hoW
  have v0 := Cell.new w3 [.int .i64 r1, .int .i64 r2, .int .i64 r3] 46 0 _ rfl _ rfl
  have v1 := Cell.new w3 [.int .i64 r1, .int .i64 r2, .int .i64 r3] 46 1 _ rfl _ rfl
  have v2 := Cell.new w3 [.int .i64 r1, .int .i64 r2, .int .i64 r3] 46 2 _ rfl _ rfl
  have hbe := hoC.1.size
  have hne3 : (some b : Option Nat) ≠ some w3.heap.size := by simp; omega
  go_wp2_with fail
  refine (flip_any b (N + 1 + 1 + 1) _ _ (hoC.2.pure (gr_alloc (World.grownBy.refl _ _) _)) (by omega) (by omega)).mono ?_
  rintro e w4 ⟨r4, rfl, ho4⟩
  have hoD := (hoC.pure (gr_alloc (World.grownBy.refl _ _) _)).trans ho4
  obtain ⟨d0, f0⟩ := v0.gr ho4.1 hne3
  obtain ⟨d1, f1⟩ := v1.gr ho4.1 hne3
  obtain ⟨d2, f2⟩ := v2.gr ho4.1 hne3
  cases r4 with
  | false =>
    obtain ⟨c0, g0⟩ := q0.out.gr hoD.1 hne
    obtain ⟨c1, g1⟩ := q1.out.gr hoD.1 hne
    obtain ⟨c2, g2⟩ := q2.out.gr hoD.1 hne
    clear hoC ho4
    go_wp2_with fail
    exact bodyPost_ret (v := .agg #[.int .i64 r1, .int .i64 r2, .int .i64 r3]) (by simp [results, Tryz.results20, go_sem, c0, g0, c1, g1, c2, g2]) rfl ⟨⟨r1, r2, r3⟩, rfl, ⟨b1.out, b2.out, b3.out⟩, (((ho0.trans hoD).mono (by omega)).set hbw (Nat.le_refl _) _ |>.set hbw (Nat.le_refl _) _).set hbw (Nat.le_refl _) _⟩
  | true =>
    go_wp2_with fail
    refine (odd_any b (N + 1 + 1 + 1 + 1) _ _ _ hoD.2 (by omega) (by omega) (by omega) (by omega)).mono ?_
    rintro e w5 ⟨r5, rfl, hr5, ho5⟩
    have hoE := hoD.trans ho5
    obtain ⟨d0, f0⟩ := (v0.gr ho4.1 hne3).gr ho5.1 hne3
    obtain ⟨d1, f1⟩ := (v1.gr ho4.1 hne3).gr ho5.1 hne3
    obtain ⟨d2, f2⟩ := (v2.gr ho4.1 hne3).gr ho5.1 hne3
    obtain ⟨c0, g0⟩ := q0.out.gr hoE.1 hne
    obtain ⟨c1, g1⟩ := q1.out.gr hoE.1 hne
    obtain ⟨c2, g2⟩ := q2.out.gr hoE.1 hne
    have hne5 : w3.heap.size ≠ w.heap.size := by have := hWt.out; omega
    have hne6 : w.heap.size ≠ w3.heap.size := by omega
    have hle : w.heap.size ≤ w3.heap.size := by have := hWt.out; omega
    clear hoC ho4 hoD ho5
    replace hr5 := hide hr5
    go_wp2_with fail
    exact bodyPost_ret (v := .agg #[.int .i64 r5, .int .i64 r2, .int .i64 r3]) (by simp [results, Tryz.results20, go_sem, c0, g0, c1, g1, c2, g2, hne5, hne6]) rfl ⟨⟨r5, r2, r3⟩, rfl, ⟨hr5.out, b2.out, b3.out⟩, ((((ho0.trans hoE).mono (by omega)).set hbw hle _ |>.set hbw (Nat.le_refl _) _).set hbw (Nat.le_refl _) _).set hbw (Nat.le_refl _) _⟩

end Go.Proofs.YtcglkjpfnnehhaaGreatDoor

namespace Go.Proofs.YtcglkjpfnnehhaaGreatDoor
open Go.RowKit Go.Bl

theorem own_litAt {α : Type} [Enc α] [Flat α] (w : World) (lo : Nat) (cs : List Value) (t : TypeId) (l : List α) (g : Nat) (hg : g = w.heap.size) (hlo : lo ≤ w.heap.size) (hm : l.length ≤ maxLen) (hr : Row w lo l cs) :
    Own (w.alloc (.cells cs.toArray t)) lo t (some ⟨g, 0, none⟩) l.length l := by
  subst hg
  have hlen := hr.len
  exact ⟨hm, cs, hr.flat, hlen, .inr ⟨w.heap.size, l.length, cs.toArray, rfl, hlo, heap_alloc_new w _, Nat.le_refl _, hm, by simpa using hlen, by rw [← hlen]; simp⟩⟩

/-- a mesh under construction: two slices of one's own in two blocks -/
def MOwn (w : World) (lo : Nat) (A : Option Addr) (c : Nat) (vs : List V3) (B : Option Addr) (d : Nat) (fs : List Fc) : Prop :=
  Own w lo 46 A c vs ∧ Own w lo 51 B d fs ∧ ∀ g, blk A = some g → blk B ≠ some g

def FB (f : Fc) : Prop := (0 ≤ f.a ∧ f.a ≤ 7) ∧ (0 ≤ f.b ∧ f.b ≤ 7) ∧ 0 ≤ f.c ∧ f.c ≤ 7

instance (f : Fc) : Decidable (FB f) := by unfold FB; infer_instance

def SMesh0 (w : World) (nv nf : Nat) (e : Ending) (w' : World) : Prop := ∃ A c vs B d fs, e = .returned (.agg #[.slice A vs.length c, .slice B fs.length d]) ∧ vs.length = nv ∧ fs.length = nf ∧ MOwn w' w.heap.size A c vs B d fs ∧ (∀ f ∈ fs, inF nv f = true) ∧ w.grownBy w' none

theorem MOwn.gr {w w' : World} {lo : Nat} {A : Option Addr} {c : Nat} {vs : List V3} {B : Option Addr} {d : Nat} {fs : List Fc} (h : MOwn w lo A c vs B d fs) (hg : w.grownBy w' none) : MOwn w' lo A c vs B d fs := ⟨h.1.pure hg, h.2.1.pure hg, h.2.2⟩

set_option maxHeartbeats 2000000 in
set_option maxRecDepth 100000 in
theorem tetra_any (v : V3) (n : Int) (w : World) (hv : Bd 1000000000000000 v) (hn : 0 ≤ n ∧ n ≤ 1000) :
    Calls Tryz.prog 19 #[.agg #[.int .i64 v.x, .int .i64 v.y, .int .i64 v.z], .int .i64 n] w (SMesh0 w 4 4) := by
  obtain ⟨⟨v1, v2⟩, ⟨v3, v4⟩, v5, v6⟩ := hv
  go_enter Tryz.func19, Tryz.ntmps19
  go_wp2_with fail
  refine bodyPost_ret (v := .agg #[.slice (some (⟨w.heap.size + 1 + 1, 0, none⟩ : Addr)) 4 4, .slice (some (⟨w.heap.size + 1 + 1 + 1, 0, none⟩ : Addr)) 4 4]) (by simp [results, Tryz.results19, go_sem]) rfl ⟨_, _, [v, ⟨v.x + n, v.y, v.z⟩, ⟨v.x, v.y + n, v.z⟩, ⟨v.x, v.y, v.z + n⟩], _, _, pyrF, rfl, rfl, rfl, ⟨?_, ?_, ?_⟩, by decide, (by repeat (first | exact World.grownBy.refl _ _ | assumption | refine gr_alloc ?_ _ | (apply gr_tail; assumption) | refine gr_drewN ?_ _ | refine gr_drew ?_))⟩
  · exact (own_litAt _ _ _ 46 [v, ⟨v.x + n, v.y, v.z⟩, ⟨v.x, v.y + n, v.z⟩, ⟨v.x, v.y, v.z + n⟩] _ (by simp) (by simp; omega) (by simp [maxLen]) ⟨_, _, rfl, rfl, _, _, rfl, rfl, _, _, rfl, rfl, _, _, rfl, rfl, rfl⟩).pure (gr_alloc (World.grownBy.refl _ _) _)
  · exact own_litAt _ _ _ 51 pyrF _ (by simp) (by simp; omega) (by simp [pyrF, maxLen]) ⟨_, _, rfl, rfl, _, _, rfl, rfl, _, _, rfl, rfl, _, _, rfl, rfl, rfl⟩
  · intro g hg h2
    simp only [blk, Option.map_some, Option.some.injEq] at hg h2
    omega

end Go.Proofs.YtcglkjpfnnehhaaGreatDoor

namespace Go.Proofs.YtcglkjpfnnehhaaGreatDoor
open Go.RowKit Go.Bl

theorem _root_.Go.Bl.Cell.grew {α : Type} [Enc α] {w w' : World} {g o lo : Nat} {v : Value} {B B' : Option Addr} {e : TypeId} {c : Nat} {l : List α} (h : Cell w g o v) (hG : Grew B B' w w') (hb : Own w lo e B c l) (hlt : g < lo) : Cell w' g o v :=
  h.gr hG.1 (fun e => by have := hb.blk_lt e; omega)

theorem _root_.Go.Bl.Grew.row {α : Type} [Enc α] {w w1 w2 : World} {lo : Nat} {r : Option Nat} {B B' : Option Addr} {e : TypeId} {c : Nat} {l : List α} (hG : Grew B B' w1 w2) (hb : Own w1 lo e B c l) (h : w.grownBy w1 r) (hlo : w.heap.size ≤ lo) : w.grownBy w2 r :=
  gr_row h hG.1 (fun g e => by have := hb.blk_lt e; omega)

theorem FB_in {f : Fc} (h : FB f) : inF 8 f = true := by
  unfold FB at h
  simp [inF, inI]
  omega

def quadL : List Int := [0, 2, 3, 1, 4, 5, 7, 6, 0, 1, 5, 4, 2, 6, 7, 3, 0, 4, 6, 2, 1, 3, 7, 5]

theorem quad_at : ∀ j, j < 6 → ∃ a b c d : Int, quadL[j * 4]? = some a ∧ quadL[j * 4 + 1]? = some b ∧ quadL[j * 4 + 2]? = some c ∧ quadL[j * 4 + 3]? = some d ∧ FB ⟨a, b, c⟩ ∧ FB ⟨a, c, d⟩ := by
  intro j hj
  have : j = 0 ∨ j = 1 ∨ j = 2 ∨ j = 3 ∨ j = 4 ∨ j = 5 := by omega
  rcases this with rfl | rfl | rfl | rfl | rfl | rfl <;> exact ⟨_, _, _, _, rfl, rfl, rfl, rfl, by decide, by decide⟩

theorem quad_cell (w : World) (t : TypeId) (n : Nat) (a : Int) (h : quadL[n]? = some a) : Cell (w.alloc (.cells (quadL.map (Value.int .i64)).toArray t)) w.heap.size n (.int .i64 a) :=
  Cell.new w _ t n _ (by rw [List.getElem?_map, h]; rfl) _ rfl

set_option maxHeartbeats 4000000 in
set_option maxRecDepth 100000 in
theorem block_any (v : V3) (x y z : Int) (w : World) :
    Calls Tryz.prog 22 #[.agg #[.int .i64 v.x, .int .i64 v.y, .int .i64 v.z], .int .i64 x, .int .i64 y, .int .i64 z] w (SMesh0 w 8 12) := by
  obtain ⟨W, hW⟩ : ∃ W, W = ((w.alloc (.cells #[.int .i64 v.x, .int .i64 v.y, .int .i64 v.z] 46)).alloc (.cells #[.slice none 0 0, .slice none 0 0] 29)).alloc (.cells #[.slice none 0 0, .slice none 0 0] 29) := ⟨_, rfl⟩
  have hg0 : w.grownBy W none := by rw [hW]; exact (by repeat (first | exact World.grownBy.refl _ _ | assumption | refine gr_alloc ?_ _ | (apply gr_tail; assumption) | refine gr_drewN ?_ _ | refine gr_drew ?_))
  have hWs : W.heap.size = w.heap.size + 1 + 1 + 1 := by rw [hW]; simp
  have b0 : Cell W w.heap.size 0 (.int .i64 v.x) := by rw [hW]; exact ⟨by go_simp, by go_simp⟩
  have b1 : Cell W w.heap.size 1 (.int .i64 v.y) := by rw [hW]; exact ⟨by go_simp, by go_simp⟩
  have b2 : Cell W w.heap.size 2 (.int .i64 v.z) := by rw [hW]; exact ⟨by go_simp, by go_simp⟩
  have r0 : Cell W (w.heap.size + 1) 0 (.slice none 0 0) := by rw [hW]; exact ⟨by go_simp, by go_simp⟩
  have r1 : Cell W (w.heap.size + 1) 1 (.slice none 0 0) := by rw [hW]; exact ⟨by go_simp, by go_simp⟩
  have m0 : Cell W (w.heap.size + 1 + 1) 0 (.slice none 0 0) := by rw [hW]; exact ⟨by go_simp, by go_simp⟩
  have m1 : Cell W (w.heap.size + 1 + 1) 1 (.slice none 0 0) := by rw [hW]; exact ⟨by go_simp, by go_simp⟩
  replace hW := hide hW.symm
  replace hWs := hide hWs
  replace b0 := hide b0
  replace b1 := hide b1
  replace b2 := hide b2
  replace r0 := hide r0
  replace r1 := hide r1
  go_enter Tryz.func22, Tryz.ntmps22
  go_wp2_with fail
  rw [hW.out]
  go_loopw [13] (fun i wr => ∃ (k : Nat) (vs : List V3) (A : Option Addr) (c : Nat), k ≤ 8 ∧ i = .int .i64 k ∧ Hid (vs.length = k) ∧ Own wr W.heap.size 46 A c vs ∧ Cell wr (w.heap.size + 1 + 1) 0 (.slice A vs.length c) ∧ Cell wr (w.heap.size + 1 + 1) 1 (.slice none 0 0) ∧ W.grownBy wr (some (w.heap.size + 1 + 1))) (fun i _ => 8 - (intOf i).toNat)
  case atStart => exact ⟨0, [], none, 0, by omega, rfl, rfl, Own.nil _ _ _, m0, m1, World.grownBy.refl _ _⟩
  case round =>
    obtain ⟨k, vs, A, c, hk, rfl, hvl, hown, c0, c1, hg⟩ := hrel
    obtain ⟨c0, f0⟩ := c0
    obtain ⟨c1, f1⟩ := c1
    by_cases hlt : k < 8
    · obtain ⟨d0, _⟩ := b0.out.gr hg (fun e => by injection e with e; omega)
      obtain ⟨d1, _⟩ := b1.out.gr hg (fun e => by injection e with e; omega)
      obtain ⟨d2, _⟩ := b2.out.gr hg (fun e => by injection e with e; omega)
      have hsz := hg.size
      have hvl' : vs.length ≤ 8 := by have := hvl.out; omega
      go_wp2_with (at_builtin; obtain ⟨i0, hi, hz, h1, h2⟩ := info_parts info_v3; refine wpList_pushAt (α := V3) _ rfl (.tmp 17) (.tmp 41) _ rfl W.heap.size 46 i0 _ 24 Tryz.underlying26 hi hz h1 h2 rfl _ _ _ vs rfl ?c1 (by exact (hown.pure (gr_alloc (World.grownBy.refl _ _) _))) 0 ⟨_, 0, none⟩ 1 1 [⟨_, _, _⟩] rfl rfl (by exact (sl_oneAt _ 0 _ _ _ _ (by first | rfl | simp) (Nat.zero_le _) rfl)) ?c2 ?c3 ?c4 ?_)
      case c1 => rfl
      case c2 => first | omega | (simp; omega)
      case c3 => first | (simp [maxLen]; omega) | (unfold maxLen; omega)
      case c4 => first | omega | (simp; omega)
      intro A5 c5 w5 hown5 hG5
      have hga := gr_alloc hg
      clear d0 d1 d2
      obtain ⟨c0, f0⟩ := (Cell.gr ⟨c0, f0⟩ (gr_alloc (World.grownBy.refl wr none) _) (by simp)).grew hG5 (hown.pure (gr_alloc (World.grownBy.refl wr none) _)) (by have := hWs.out; omega)
      obtain ⟨c1, f1⟩ := (Cell.gr ⟨c1, f1⟩ (gr_alloc (World.grownBy.refl wr none) _) (by simp)).grew hG5 (hown.pure (gr_alloc (World.grownBy.refl wr none) _)) (by have := hWs.out; omega)
      have hg5 := hG5.row (hown.pure (gr_alloc (World.grownBy.refl wr none) _)) (gr_alloc hg _) (Nat.le_refl _)
      go_wp2_with fail
      have hgs := gr_set (World.grownBy.refl w5 (some (w.heap.size + 1 + 1))) (p := ⟨w.heap.size + 1 + 1, 0, none⟩) (.inl rfl) (.slice A5 (vs.length + 1) c5)
      (go_roundw; (case rel => exact ⟨k + 1, _, A5, c5, by omega, by go_num, by have := hvl.out; simp [Hid, this], hown5.ne hgs (fun g e1 e2 => by have := (hown5.blk_lt e1).1; have := hWs.out; injection e2; omega), by have := Cell.set_ ⟨c0, f0⟩ (.slice A5 (vs.length + 1) c5); simpa using this, Cell.set_ne ⟨c1, f1⟩ _ (by decide), gr_trans hg5 hgs⟩); (case measure => simp [intOf]; omega))
    · have hk8 : k = 8 := by omega
      subst hk8
      rw [show ((8 : Nat) : Int) = (8 : Int) from rfl]
      obtain ⟨d0, _⟩ := b0.out.gr hg (fun e => by injection e with e; omega)
      go_wp2_with fail
      obtain ⟨wp, rfl⟩ : ∃ x, x = wr := ⟨wr, rfl⟩
      obtain ⟨Wb, hWb⟩ : ∃ Wb, Wb = wp.alloc (.cells (quadL.map (Value.int .i64)).toArray 113) := ⟨_, rfl⟩
      have hQ := quad_cell wp 113
      rw [← hWb] at hQ
      have hga : wp.grownBy Wb none := by rw [hWb]; exact gr_alloc (World.grownBy.refl _ _) _
      have hWbs : Wb.heap.size = wp.heap.size + 1 := by rw [hWb]; simp
      have e0 := Cell.gr ⟨c0, f0⟩ hga (by simp)
      have e1 := Cell.gr ⟨c1, f1⟩ hga (by simp)
      have hAlt : ∀ g, blk A = some g → W.heap.size ≤ g ∧ g < wp.heap.size := fun g e => hown.blk_lt e
      have hown := hown.pure hga
      replace hQ := hide hQ
      simp only [quadL, List.map_cons, List.map_nil] at hWb
      replace hWb := hide hWb.symm
      have hgW := hg
      replace hg := gr_step hg hga
      replace hAlt := hide hAlt
      replace hWbs := hide hWbs
      have hmb := c0
      clear c0 f0 c1 f1 d0 hga
      rw [hWb.out]
      have hmlt : w.heap.size + 1 + 1 < wp.heap.size := cell_lt hmb
      clear hmb
      go_loopw [53] (fun i wr => ∃ (j : Nat) (fs : List Fc) (B : Option Addr) (d : Nat), j ≤ 6 ∧ i = .int .i64 j ∧ Hid (fs.length = 2 * j) ∧ Own wr Wb.heap.size 51 B d fs ∧ Cell wr (w.heap.size + 1 + 1) 0 (.slice A vs.length c) ∧ Cell wr (w.heap.size + 1 + 1) 1 (.slice B fs.length d) ∧ Hid (∀ f ∈ fs, FB f) ∧ Wb.grownBy wr (some (w.heap.size + 1 + 1))) (fun i _ => 6 - (intOf i).toNat)
      case atStart => exact ⟨0, [], none, 0, by omega, rfl, rfl, Own.nil _ _ _, e0, e1, by intro f hf; simp at hf, World.grownBy.refl _ _⟩
      case round =>
        obtain ⟨j, fs, B, d, hj, rfl, hfl, hownB, c0, c1, hFB, hgq⟩ := hrel
        by_cases hlj : j < 6
        · obtain ⟨q0, q1, q2, q3, x0, x1, x2, x3, y0, y1⟩ := quad_at j hlj
          have x0 := ((hQ.out _ _ x0).gr hgq (fun e => by injection e with e; omega)).1
          have x1 := ((hQ.out _ _ x1).gr hgq (fun e => by injection e with e; omega)).1
          have x2 := ((hQ.out _ _ x2).gr hgq (fun e => by injection e with e; omega)).1
          have x3 := ((hQ.out _ _ x3).gr hgq (fun e => by injection e with e; omega)).1
          have hlq : wp.heap.size < wr.heap.size := cell_lt x0
          have hmq : w.heap.size + 1 + 1 < wr.heap.size := by omega
          replace y0 := hide y0
          replace y1 := hide y1
          obtain ⟨c0, f0⟩ := c0
          obtain ⟨c1, f1⟩ := c1
          have hsz := hgq.size
          have hfl' : fs.length ≤ 12 := by have := hfl.out; omega
          go_wp2_with (at_builtin; obtain ⟨i0, hi, hz, h1, h2⟩ := info_parts info_face; refine wpList_pushAt (α := Fc) _ rfl (.tmp 58) (.tmp 73) _ rfl Wb.heap.size 51 i0 _ 24 Tryz.underlying27 hi hz h1 h2 rfl _ _ _ fs rfl ?c1 (by exact (hownB.pure (by repeat (first | exact World.grownBy.refl _ _ | assumption | refine gr_alloc ?_ _ | refine gr_drewN ?_ _ | refine gr_drew ?_)))) 0 ⟨_, 0, none⟩ 2 2 [⟨q0, q1, q2⟩, ⟨q0, q2, q3⟩] rfl rfl (by exact (sl_litAt _ 0 _ _ _ _ (by first | rfl | simp) (Nat.zero_le _) (by simp [maxLen]) ⟨_, _, rfl, rfl, _, _, rfl, rfl, rfl⟩)) ?c2 ?c3 ?c4 ?_)
          case c1 => rfl
          case c2 => first | omega | (simp; omega)
          case c3 => first | (simp [maxLen]; omega) | (unfold maxLen; omega)
          case c4 => first | omega | (simp; omega)
          intro A5 c5 w5 hown5 hG5
          have hgm := gr_alloc (gr_alloc (World.grownBy.refl wr none) (.cells #[.int .i64 q0, .int .i64 q1, .int .i64 q2, .int .i64 q3] 113)) (.cells #[.int .i64 q0, .int .i64 q1, .int .i64 q2, .int .i64 q0, .int .i64 q2, .int .i64 q3] 51)
          have hmlo : w.heap.size + 1 + 1 < Wb.heap.size := by have := hWbs.out; omega
          clear x0 x1 x2 x3
          obtain ⟨c0, f0⟩ := (Cell.gr ⟨c0, f0⟩ hgm (by simp)).grew hG5 (hownB.pure hgm) hmlo
          obtain ⟨c1, f1⟩ := (Cell.gr ⟨c1, f1⟩ hgm (by simp)).grew hG5 (hownB.pure hgm) hmlo
          have hg5 := hG5.row (hownB.pure hgm) (gr_step hgq hgm) (Nat.le_refl _)
          have hF5 : Hid (∀ f ∈ fs ++ [⟨q0, q1, q2⟩, ⟨q0, q2, q3⟩], FB f) := by
            intro f hf
            rcases List.mem_append.1 hf with hf | hf
            · exact hFB.out f hf
            · simp only [List.mem_cons, List.not_mem_nil, or_false] at hf
              rcases hf with rfl | rfl
              · exact y0.out
              · exact y1.out
          go_wp2_with fail
          have hgs := gr_set (World.grownBy.refl w5 (some (w.heap.size + 1 + 1))) (p := ⟨w.heap.size + 1 + 1, 1, none⟩) (.inl rfl) (.slice A5 (fs.length + 2) c5)
          (go_roundw; (case rel => exact ⟨j + 1, _, A5, c5, by omega, by go_num, by have := hfl.out; simp [Hid, this]; omega, hown5.ne hgs (fun g e1 e2 => by have := (hown5.blk_lt e1).1; injection e2; omega), Cell.set_ne ⟨c0, f0⟩ _ (by decide), by have := Cell.set_ ⟨c1, f1⟩ (.slice A5 (fs.length + 2) c5); simpa using this, hF5, gr_trans hg5 hgs⟩); (case measure => simp [intOf]; omega))
        · have hj6 : j = 6 := by omega
          subst hj6
          have hgr := gr_trans hg hgq
          obtain ⟨c0, f0⟩ := c0
          obtain ⟨c1, f1⟩ := c1
          obtain ⟨x0, y0⟩ := r0.out.gr hgr (fun e => by injection e with e; omega)
          obtain ⟨x1, y1⟩ := r1.out.gr hgr (fun e => by injection e with e; omega)
          have hne : ¬ w.heap.size + 1 + 1 = w.heap.size + 1 := by omega
          have hne2 : ¬ w.heap.size + 1 = w.heap.size + 1 + 1 := by omega
          go_wp2_with fail
          have hWs' := hWs.out
          have hWbs' := hWbs.out
          have hgs := fun (u : World) (v1 v2 : Value) => gr_set (gr_set (World.grownBy.refl u (some (w.heap.size + 1))) (p := ⟨w.heap.size + 1, 0, none⟩) (.inl rfl) v1) (p := ⟨w.heap.size + 1, 1, none⟩) (.inl rfl) v2
          refine bodyPost_ret (v := .agg #[.slice A vs.length c, .slice B fs.length d]) (by simp [results, Tryz.results22, go_sem, x0, x1, y0, y1]) rfl ⟨A, c, vs, B, d, fs, rfl, hvl.out, hfl.out, ⟨?_, ?_, ?_⟩, fun f hf => FB_in (hFB.out f hf), ?_⟩
          · exact (((hown.ne hgq (fun g e e2 => by have := hAlt.out g e; injection e2; omega)).ne (hgs _ _ _) (fun g e e2 => by have := hAlt.out g e; injection e2; omega))).lower (by omega)
          · exact (hownB.ne (hgs _ _ _) (fun g e e2 => by have := (hownB.blk_lt e).1; injection e2; omega)).lower (by omega)
          · intro g e e2
            have := hAlt.out g e
            have := (hownB.blk_lt e2).1
            omega
          · exact gr_set (gr_set (gr_row hg0 hgr (fun g e => by injection e; omega)) (.inr (by simp)) _) (.inr (by simp)) _

end Go.Proofs.YtcglkjpfnnehhaaGreatDoor

namespace Go.Proofs.YtcglkjpfnnehhaaGreatDoor
open Go.RowKit Go.Bl

theorem v3_ext {a b : V3} (h1 : a.x = b.x) (h2 : a.y = b.y) (h3 : a.z = b.z) : a = b := by cases a; cases b; simp_all

theorem fc_ext {a b : Fc} (h1 : a.a = b.a) (h2 : a.b = b.b) (h3 : a.c = b.c) : a = b := by cases a; cases b; simp_all

set_option maxHeartbeats 1600000 in
theorem equalV3_any (A : Option Addr) (c : Nat) (l : List V3) (B : Option Addr) (d : Nat) (m : List V3) (w : World) (hl : Sl w 0 A l) (hm : Sl w 0 B m) :
    Calls Tryz.prog 46 #[.slice A l.length c, .slice B m.length d] w fun e w' => e = .returned (.bool (eqB l m)) ∧ w.grownBy w' none := by
  have hm1 := hl.1
  have hm2 := hm.1
  unfold maxLen at hm1 hm2
  by_cases hlen : l.length = m.length
  · have hb : (l.length != m.length) = false := by simp [hlen]
    have hb2 : ((l.length : Int) != m.length) = false := by simp [hlen]
    replace hlen := hide hlen
    go_enter Tryz.func46, Tryz.ntmps46
    go_wp2
    go_loopw [13] (fun i wr => ∃ k : Nat, k ≤ l.length ∧ i = .int .i64 k ∧ w.grownBy wr none ∧ Hid (l.take k = m.take k)) (fun i _ => l.length - (intOf i).toNat)
    case atStart => exact ⟨0, Nat.zero_le _, rfl, World.grownBy.refl _ _, rfl⟩
    case round =>
      obtain ⟨k, hk, rfl, hg, hq⟩ := hrel
      by_cases hlt : k < l.length
      · have hlt2 : k < m.length := by rw [← hlen.out]; exact hlt
        obtain ⟨g, o, cx, rfl, hb0, hb1, rfl, hc⟩ := (hl.pure hg).at_ (by decide) hlt
        have c0 : wr.cell? ⟨g, o + k * 3, none⟩ = some (.int .i64 l[k].x) := hc 0 _ rfl
        have c1 : wr.cell? ⟨g, o + k * 3 + 1, none⟩ = some (.int .i64 l[k].y) := hc 1 _ rfl
        have c2 : wr.cell? ⟨g, o + k * 3 + 2, none⟩ = some (.int .i64 l[k].z) := hc 2 _ rfl
        clear hc
        obtain ⟨g', o', cx, rfl, hb0', hb1', rfl, hc⟩ := (hm.pure hg).at_ (by decide) hlt2
        have c0' : wr.cell? ⟨g', o' + k * 3, none⟩ = some (.int .i64 m[k].x) := hc 0 _ rfl
        have c1' : wr.cell? ⟨g', o' + k * 3 + 1, none⟩ = some (.int .i64 m[k].y) := hc 1 _ rfl
        have c2' : wr.cell? ⟨g', o' + k * 3 + 2, none⟩ = some (.int .i64 m[k].z) := hc 2 _ rfl
        clear hc
        have HS : Hid (l[k] = m[k] → l.take (k + 1) = m.take (k + 1)) := fun h => by rw [take_snoc hlt, take_snoc hlt2, hq.out, h]
        have HN : Hid (l[k] ≠ m[k] → eqB l m = false) := fun h => eqB_ne hlt hlt2 h
        go_wp2_with fail
        refine wp_region_fix 8 ((fun wx => wr.grownBy wx none)) (by kernel_rfl) (by kernel_rfl) (gr_drew (World.grownBy.refl _ _)) ?_
        simp only [List.take_succ_cons, List.take_zero, List.drop_succ_cons, List.drop_zero]
        iterate 3 ((refine fix_b (fun K hK => ?_); apply Exists.intro; refine ⟨fun wx hC K' hK' => ?_, ?_⟩; (focus (replace hK' := hide hK'; skip; go_wp2_with fail; exact hK'.out _ hC)); go_simp; refine hK _ ?_; clear hK K))
        (refine fix_b (fun K hK => ?_); apply Exists.intro; refine ⟨fun wx hC K' hK' => ?_, ?_⟩; (focus (replace hK' := hide hK'; (have b0 := hC.k c0; have b1 := hC.k c1; have b2 := hC.k c2); go_wp2_with fail; exact hK'.out _ hC)); go_simp; refine hK _ ?_; clear hK K)
        iterate 3 ((refine fix_b (fun K hK => ?_); apply Exists.intro; refine ⟨fun wx hC K' hK' => ?_, ?_⟩; (focus (replace hK' := hide hK'; skip; go_wp2_with fail; exact hK'.out _ hC)); go_simp; refine hK _ ?_; clear hK K))
        (refine fix_b (fun K hK => ?_); apply Exists.intro; refine ⟨fun wx hC K' hK' => ?_, ?_⟩; (focus (replace hK' := hide hK'; (have b0 := hC.k c0'; have b1 := hC.k c1'; have b2 := hC.k c2'); go_wp2_with fail; exact hK'.out _ hC)); go_simp; refine hK _ ?_; clear hK K)
        refine fix_nil ?_
        intro wz hC
        go_wp2_with fail
        all_goals first
          | (go_ret; exact ⟨ret_bool (HN.out (fun h => by simp_all)).symm, (by repeat (first | exact World.grownBy.refl _ _ | assumption | refine gr_alloc ?_ _ | (apply gr_tail; assumption) | refine gr_drewN ?_ _ | refine gr_drew ?_))⟩)
          | (go_roundw; (case rel => exact ⟨k + 1, by omega, by go_num, (by repeat (first | exact World.grownBy.refl _ _ | assumption | refine gr_alloc ?_ _ | (apply gr_tail; assumption) | refine gr_drewN ?_ _ | refine gr_drew ?_)), HS.out (v3_ext ‹_› ‹_› ‹_›)⟩); (case measure => simp [intOf]; omega))
          | (go_roundw; (case rel => exact ⟨k + 1, by omega, by go_num, (by repeat (first | exact World.grownBy.refl _ _ | assumption | refine gr_alloc ?_ _ | (apply gr_tail; assumption) | refine gr_drewN ?_ _ | refine gr_drew ?_)), HS.out (by apply v3_ext <;> simp_all)⟩); (case measure => simp [intOf]; omega))
      · have HB : Hid (eqB l m = true) := eqB_all hlen.out (by have := hq.out; rwa [show k = l.length by omega] at this)
        go_wp2
        go_ret
        exact ⟨ret_bool HB.out.symm, hg⟩
  · have hb : (l.length != m.length) = true := by simp [hlen]
    have hb2 : ((l.length : Int) != m.length) = true := by simp; omega
    have HB := hide (eqB_len hlen)
    clear hlen
    go_enter Tryz.func46, Tryz.ntmps46
    go_wp2
    go_ret
    exact ⟨ret_bool HB.out.symm, World.grownBy.refl _ _⟩

set_option maxHeartbeats 1600000 in
theorem equalFc_any (A : Option Addr) (c : Nat) (l : List Fc) (B : Option Addr) (d : Nat) (m : List Fc) (w : World) (hl : Sl w 0 A l) (hm : Sl w 0 B m) :
    Calls Tryz.prog 47 #[.slice A l.length c, .slice B m.length d] w fun e w' => e = .returned (.bool (eqB l m)) ∧ w.grownBy w' none := by
  have hm1 := hl.1
  have hm2 := hm.1
  unfold maxLen at hm1 hm2
  by_cases hlen : l.length = m.length
  · have hb : (l.length != m.length) = false := by simp [hlen]
    have hb2 : ((l.length : Int) != m.length) = false := by simp [hlen]
    replace hlen := hide hlen
    go_enter Tryz.func47, Tryz.ntmps47
    go_wp2
    go_loopw [13] (fun i wr => ∃ k : Nat, k ≤ l.length ∧ i = .int .i64 k ∧ w.grownBy wr none ∧ Hid (l.take k = m.take k)) (fun i _ => l.length - (intOf i).toNat)
    case atStart => exact ⟨0, Nat.zero_le _, rfl, World.grownBy.refl _ _, rfl⟩
    case round =>
      obtain ⟨k, hk, rfl, hg, hq⟩ := hrel
      by_cases hlt : k < l.length
      · have hlt2 : k < m.length := by rw [← hlen.out]; exact hlt
        obtain ⟨g, o, cx, rfl, hb0, hb1, rfl, hc⟩ := (hl.pure hg).at_ (by decide) hlt
        have c0 : wr.cell? ⟨g, o + k * 3, none⟩ = some (.int .i64 l[k].a) := hc 0 _ rfl
        have c1 : wr.cell? ⟨g, o + k * 3 + 1, none⟩ = some (.int .i64 l[k].b) := hc 1 _ rfl
        have c2 : wr.cell? ⟨g, o + k * 3 + 2, none⟩ = some (.int .i64 l[k].c) := hc 2 _ rfl
        clear hc
        obtain ⟨g', o', cx, rfl, hb0', hb1', rfl, hc⟩ := (hm.pure hg).at_ (by decide) hlt2
        have c0' : wr.cell? ⟨g', o' + k * 3, none⟩ = some (.int .i64 m[k].a) := hc 0 _ rfl
        have c1' : wr.cell? ⟨g', o' + k * 3 + 1, none⟩ = some (.int .i64 m[k].b) := hc 1 _ rfl
        have c2' : wr.cell? ⟨g', o' + k * 3 + 2, none⟩ = some (.int .i64 m[k].c) := hc 2 _ rfl
        clear hc
        have HS : Hid (l[k] = m[k] → l.take (k + 1) = m.take (k + 1)) := fun h => by rw [take_snoc hlt, take_snoc hlt2, hq.out, h]
        have HN : Hid (l[k] ≠ m[k] → eqB l m = false) := fun h => eqB_ne hlt hlt2 h
        go_wp2_with fail
        refine wp_region_fix 8 ((fun wx => wr.grownBy wx none)) (by kernel_rfl) (by kernel_rfl) (gr_drew (World.grownBy.refl _ _)) ?_
        simp only [List.take_succ_cons, List.take_zero, List.drop_succ_cons, List.drop_zero]
        iterate 3 ((refine fix_b (fun K hK => ?_); apply Exists.intro; refine ⟨fun wx hC K' hK' => ?_, ?_⟩; (focus (replace hK' := hide hK'; skip; go_wp2_with fail; exact hK'.out _ hC)); go_simp; refine hK _ ?_; clear hK K))
        (refine fix_b (fun K hK => ?_); apply Exists.intro; refine ⟨fun wx hC K' hK' => ?_, ?_⟩; (focus (replace hK' := hide hK'; (have b0 := hC.k c0; have b1 := hC.k c1; have b2 := hC.k c2); go_wp2_with fail; exact hK'.out _ hC)); go_simp; refine hK _ ?_; clear hK K)
        iterate 3 ((refine fix_b (fun K hK => ?_); apply Exists.intro; refine ⟨fun wx hC K' hK' => ?_, ?_⟩; (focus (replace hK' := hide hK'; skip; go_wp2_with fail; exact hK'.out _ hC)); go_simp; refine hK _ ?_; clear hK K))
        (refine fix_b (fun K hK => ?_); apply Exists.intro; refine ⟨fun wx hC K' hK' => ?_, ?_⟩; (focus (replace hK' := hide hK'; (have b0 := hC.k c0'; have b1 := hC.k c1'; have b2 := hC.k c2'); go_wp2_with fail; exact hK'.out _ hC)); go_simp; refine hK _ ?_; clear hK K)
        refine fix_nil ?_
        intro wz hC
        go_wp2_with fail
        all_goals first
          | (go_ret; exact ⟨ret_bool (HN.out (fun h => by simp_all)).symm, (by repeat (first | exact World.grownBy.refl _ _ | assumption | refine gr_alloc ?_ _ | (apply gr_tail; assumption) | refine gr_drewN ?_ _ | refine gr_drew ?_))⟩)
          | (go_roundw; (case rel => exact ⟨k + 1, by omega, by go_num, (by repeat (first | exact World.grownBy.refl _ _ | assumption | refine gr_alloc ?_ _ | (apply gr_tail; assumption) | refine gr_drewN ?_ _ | refine gr_drew ?_)), HS.out (fc_ext ‹_› ‹_› ‹_›)⟩); (case measure => simp [intOf]; omega))
          | (go_roundw; (case rel => exact ⟨k + 1, by omega, by go_num, (by repeat (first | exact World.grownBy.refl _ _ | assumption | refine gr_alloc ?_ _ | (apply gr_tail; assumption) | refine gr_drewN ?_ _ | refine gr_drew ?_)), HS.out (by apply fc_ext <;> simp_all)⟩); (case measure => simp [intOf]; omega))
      · have HB : Hid (eqB l m = true) := eqB_all hlen.out (by have := hq.out; rwa [show k = l.length by omega] at this)
        go_wp2
        go_ret
        exact ⟨ret_bool HB.out.symm, hg⟩
  · have hb : (l.length != m.length) = true := by simp [hlen]
    have hb2 : ((l.length : Int) != m.length) = true := by simp; omega
    have HB := hide (eqB_len hlen)
    clear hlen
    go_enter Tryz.func47, Tryz.ntmps47
    go_wp2
    go_ret
    exact ⟨ret_bool HB.out.symm, World.grownBy.refl _ _⟩

theorem sameMesh_any (A : Option Addr) (c : Nat) (vs : List V3) (B : Option Addr) (d : Nat) (fs : List Fc) (A2 : Option Addr) (c2 : Nat) (B2 : Option Addr) (d2 : Nat) (w : World) (h1 : Sl w 0 A vs) (h2 : Sl w 0 B fs) (h3 : Sl w 0 A2 vs) (h4 : Sl w 0 B2 fs) :
    Calls Tryz.prog 14 #[.agg #[.slice A vs.length c, .slice B fs.length d], .agg #[.slice A2 vs.length c2, .slice B2 fs.length d2]] w fun e w' => e = .returned (.bool true) ∧ w.grownBy w' none := by
  obtain ⟨W, hW⟩ : ∃ W, W = (w.alloc (.cells #[.slice A vs.length c, .slice B fs.length d] 29)).alloc (.cells #[.slice A2 vs.length c2, .slice B2 fs.length d2] 29) := ⟨_, rfl⟩
  have hlt0 : w.heap.size < w.heap.size + 1 := Nat.lt_succ_self _
  have hg0 : w.grownBy W none := by rw [hW]; exact (by repeat (first | exact World.grownBy.refl _ _ | assumption | refine gr_alloc ?_ _ | (apply gr_tail; assumption) | refine gr_drewN ?_ _ | refine gr_drew ?_))
  have b1 : W.cell? ⟨w.heap.size, 1, none⟩ = some (.slice B fs.length d) := by rw [hW]; go_simp
  have b3 : W.cell? ⟨w.heap.size + 1, 1, none⟩ = some (.slice B2 fs.length d2) := by rw [hW]; go_simp
  replace hW := hide hW.symm
  go_enter Tryz.func14, Tryz.ntmps14
  go_wp2_with fail
  rw [hW.out]
  refine (equalV3_any A c vs A2 c2 vs _ (h1.pure hg0) (h3.pure hg0)).mono ?_
  rintro e w1 ⟨rfl, hg1⟩
  rw [eqB_refl]
  replace b1 := hg1.k b1
  replace b3 := hg1.k b3
  have hg2 := gr_trans hg0 hg1
  clear hg1 hW
  go_wp2_with fail
  refine (equalFc_any B d fs B2 d2 fs _ (h2.pure hg2) (h4.pure hg2)).mono ?_
  rintro e w2 ⟨rfl, hg3⟩
  rw [eqB_refl]
  go_wp2_with fail
  go_ret
  exact ⟨rfl, gr_trans hg2 hg3⟩

end Go.Proofs.YtcglkjpfnnehhaaGreatDoor

/- Contracts of functions that this seat's laws reach, each: what one call returns and what it leaves in memory; no condition beyond each theorem's own hypotheses. -/
import Derived.Test.YtgcpegjggakemaaGreatDoorZqGroA
import Derived.Test.YtgcpegjggakemaaGreatDoorZqCelW
import Derived.Test.YtgcpegjggakemaaGreatDoorZqGroE
import Derived.Test.YtgcpegjggakemaaGreatDoorZqClosData
import Derived.Test.YtgcpegjggakemaaGreatDoorZqNestCat
import Derived.ArgAppend
set_option linter.unusedVariables false
set_option linter.unusedSimpArgs false
namespace Go.Bl
open Go

theorem gro_add (k : Int) (S : Int → Int → Bool) (p : Pt) (x y : Int) : groS k (fun u v => S u v || decide (u = p.x ∧ v = p.y)) x y = (groS k S x y || decide ((-k ≤ x - p.x ∧ x - p.x ≤ k) ∧ -k ≤ y - p.y ∧ y - p.y ≤ k)) := by
  rw [Bool.eq_iff_iff, Bool.or_eq_true, gro_iff, gro_iff, decide_eq_true_iff]
  constructor
  · rintro ⟨i, j, h1, h2, h3⟩
    simp only [Bool.or_eq_true, decide_eq_true_eq] at h3
    rcases h3 with h3 | h3
    · exact .inl ⟨i, j, h1, h2, h3⟩
    · right; omega
  · rintro (⟨i, j, h1, h2, h3⟩ | h)
    · exact ⟨i, j, h1, h2, by simp [h3]⟩
    · exact ⟨x - p.x, y - p.y, by omega, by omega, by simp only [Bool.or_eq_true, decide_eq_true_eq]; right; omega⟩

theorem gro_none (k : Int) (x y : Int) : groS k (fun _ _ => false) x y = false := by
  rcases h : groS k (fun _ _ => false) x y with _ | _
  · rfl
  · obtain ⟨i, j, -, -, h⟩ := gro_iff.1 h
    cases h

theorem gro_ext {S T : Int → Int → Bool} (h : ∀ x y, S x y = T x y) (k x y : Int) : groS k S x y = groS k T x y := by
  have : S = T := funext fun x => funext fun y => h x y
  rw [this]

theorem AboutL.mem {p : Pt} {n : Int} {l : List Pt} (h : AboutL p n l) (x y : Int) : memL l x y = decide ((-n ≤ x - p.x ∧ x - p.x ≤ n) ∧ -n ≤ y - p.y ∧ y - p.y ≤ n) := by
  unfold memL
  rw [decide_eq_decide, h]

theorem on_bdG {c : Cel} (hok : CellsOk c) {x y : Int} (h : onC c x y = true) : (-2000000 ≤ x ∧ x ≤ 2000200) ∧ -2000000 ≤ y ∧ y ≤ 2000200 := by
  rw [← gridOf_at hok] at h
  have h1 := Grd.at_in h
  unfold Grd.In at h1
  have h2 := gridOf_bd hok
  omega

end Go.Bl
namespace Go.Proofs.YtgcpegjggakemaaGreatDoor
open Go Go.RowKit Go.Bl

set_option maxHeartbeats 4000000 in
set_option maxRecDepth 100000 in
theorem grownBy_any (c : Cel) (A : Option Addr) (n cc : Nat) (k : Int) (w : World) (ha : CArg w c A n) (hok : CellsOk c) (hk : 0 ≤ k ∧ k ≤ 20) :
    Calls Tryz.prog 30 #[.agg #[.int .i64 (c).step, .int .i64 (c).x, .int .i64 (c).y, .slice A n cc], .int .i64 k] w fun e w' => CelsOut w w' c.step (groS k (onC c)) e := by
  have hbd : Hid (∀ x y, onC c x y = true → (-2000000 ≤ x ∧ x ≤ 2000200) ∧ -2000000 ≤ y ∧ y ≤ 2000200) := fun x y h => on_bdG hok h
  have hin : Hid (∀ x y, groS k (onC c) x y = true → -10000000 ≤ x ∧ x ≤ 10001000 ∧ -10000000 ≤ y ∧ y ≤ 10001000) := fun x y h => by
    obtain ⟨i, j, h1, h2, h3⟩ := gro_iff.1 h
    have := hbd.out _ _ h3
    omega
  have hsp := step_pos hok.step
  have hSa := hide (fun W (h : w.grownBy W none) => setOf_any c A n cc W (ha.pure h) hok.fit)
  clear ha hok
  generalize onC c = S at *
  go_enter Tryz.func30, Tryz.ntmps30
  go_upto_region 1 with fail
  obtain ⟨w2, hw2⟩ : ∃ x, x = ((w).alloc (.cells [.int .i64 (c).step, .int .i64 (c).x, .int .i64 (c).y, .slice A n cc].toArray 34)).alloc (.cells [.int .i64 0, .int .i64 0, .int .i64 0, .slice none 0 0].toArray 34) := ⟨_, rfl⟩
  have hba2 : Box w2 (w).heap.size 34 [.int .i64 (c).step, .int .i64 (c).x, .int .i64 (c).y, .slice A n cc] := by
    rw [hw2]; exact (Box.new (w) [.int .i64 (c).step, .int .i64 (c).x, .int .i64 (c).y, .slice A n cc] 34).pure (gr_alloc (World.grownBy.refl _ _) _)
  have hbb2 : Box w2 ((w).heap.size + 1) 34 [.int .i64 0, .int .i64 0, .int .i64 0, .slice none 0 0] := by
    have h := Box.new ((w).alloc (.cells [.int .i64 (c).step, .int .i64 (c).x, .int .i64 (c).y, .slice A n cc].toArray 34)) [.int .i64 0, .int .i64 0, .int .i64 0, .slice none 0 0] 34
    rw [show ((w).alloc (.cells [.int .i64 (c).step, .int .i64 (c).x, .int .i64 (c).y, .slice A n cc].toArray 34)).heap.size = (w).heap.size + 1 by simp] at h
    rw [hw2]; exact h
  have hg2 : (w).grownBy w2 none := by rw [hw2]; exact (by repeat (first | exact World.grownBy.refl _ _ | assumption | refine gr_alloc ?_ _ | (apply gr_tail; assumption) | refine gr_drewN ?_ _ | refine gr_drew ?_))
  rw [← hw2]
  clear hw2
  obtain ⟨xb2, hxb2⟩ : ∃ x, x = (w).heap.size + 1 := ⟨_, rfl⟩
  rw [← hxb2] at hbb2 ⊢
  obtain ⟨xa2, hxa2⟩ : ∃ x, x = (w).heap.size := ⟨_, rfl⟩
  rw [← hxa2] at hba2 ⊢
  have hxn2 : xa2 ≠ xb2 := by omega
  replace hxa2 : (w).heap.size ≤ xa2 := by omega
  replace hxb2 : (w).heap.size ≤ xb2 := by omega
  have hmk := run_makeMap (P := Tryz.prog) 92 w2
  go_upto_region 2 with fail
  have hM0 := SetAt.made w2
  obtain ⟨w3, hw3⟩ : ∃ x, x = w2.alloc (.map #[] 0) := ⟨_, rfl⟩
  have hg3 : w2.grownBy w3 none := by rw [hw3]; exact gr_alloc (World.grownBy.refl _ _) _
  rw [← hw3] at hM0 ⊢
  obtain ⟨mo, hmo⟩ : ∃ x, x = w2.heap.size := ⟨_, rfl⟩
  rw [← hmo] at hM0 ⊢
  have hmol : mo < w3.heap.size := hM0.lt
  have hmow : w.heap.size ≤ mo := by have := hg2.size; omega
  have hxm : xa2 ≠ mo ∧ xb2 ≠ mo := by have := hba2.lt; have := hbb2.lt; omega
  clear hw3 hmo hmk
  have hgw3 := hg2.t hg3
  obtain ⟨⟨a0, -⟩, ⟨a1, -⟩, ⟨a2, -⟩, ⟨a3, -⟩⟩ := box4_c (hba2.pure hg3)
  go_wp2_with fail
  refine (hSa.out w3 hgw3).mono ?_
  rintro e w4 ⟨b, rfl, hSb, hg4, hbl⟩
  clear a0 a1 a2 a3 hSa
  have hgw4 := hgw3.t hg4
  have hba := (hba2.pure hg3).pure hg4
  have hbb := (hbb2.pure hg3).pure hg4
  have hM4 := hM0.pure hg4
  have hbm : b ≠ mo := by omega
  clear hba2 hbb2 hg2 hg3 hgw3 hM0 hg4
  go_wp2_with (at_range; refine wpList_range_C _ rfl _ rfl b _ _ rfl hSb ?_; intro w5 cnt hR hg5 hs5)
  obtain ⟨r, hr⟩ : ∃ r, r = w4.heap.size := ⟨_, rfl⟩
  rw [← hr] at hR ⊢
  have hr1 : w.heap.size ≤ r := by have := hgw4.size; omega
  have hrm : r ≠ mo := by have := hM4.lt; omega
  have hxr : xa2 ≠ r ∧ xb2 ≠ r := by have := hba.lt; have := hbb.lt; omega
  clear hr
  have hgw := hgw4.t hg5
  have hRan := hide (Ran.start S)
  obtain ⟨-, hcnt⟩ := hs5
  replace hba := hba.pure hg5
  replace hbb := hbb.pure hg5
  have hM5 := (hM4.pure hg5).congr (T := groS k (fun _ _ => false)) (fun x y => (gro_none k x y).symm)
  clear hSb hg5 hgw4 hM4 hbl hmol
  have hcn0 : Hid (0 + 1681 * cnt ≤ 1681000000) := by simp only [Hid]; omega
  go_frame
  go_loopw [7] (fun _ wr => ∃ (R : Pt → Prop) (V : Int → Int → Bool) (cn N : Nat), RangeOf spM wr b r 1000000 (setC S) R cn ∧ Hid (Ran S R V) ∧ Hid (N + 1681 * cn ≤ 1681000000) ∧ SetAt wr mo N (groS k V) ∧ Box wr xa2 34 ([.int .i64 (c).step, .int .i64 (c).x, .int .i64 (c).y, .slice A n cc]) ∧ Box wr xb2 34 ([.int .i64 0, .int .i64 0, .int .i64 0, .slice none 0 0]) ∧ w.grownBy wr none) (fun _ wr => wr.rangeLeft b r)
  case atStart => exact ⟨_, _, cnt, 0, hR, hRan, hcn0, hM5, hba, hbb, hgw⟩
  case round =>
    clear hR hRan hgw hcnt hcn0 hM5 hba hbb
    obtain ⟨R, V, cn, N, hR, hRan, hcn, hM, hba, hbb, hgw⟩ := hrel
    have hleft := hR.left
    have hne := hR.ne
    have hlr := hR.lt
    go_wp2_with (at_next; refine wpList_next_C _ rfl _ rfl b r _ _ R cn rfl hR (fun h0 hnS => Hid.out ?_) (fun kx ky w7 cn7 hox hSx hR7 hlt7 hg7 hen => Hid.out ?_))
    · refine hide ?_
      have hno : ∀ k, ¬ R k := spM_ok (fun x y h => by have := hbd.out x y h; exact okSp_of (by omega) (by omega)) hRan.out hnS
      have hall := hRan.out.done hno
      have hMf := hM.congr (T := groS k S) (fun x y => gro_ext hall k x y)
      have hOf := hide (cellsOf_any mo N (groS k S) c.step wr hMf hsp hin.out)
      obtain ⟨a0, -⟩ := hba.c 0 rfl
      clear hnS hR hRan hno hM hMf hall
      go_wp2_with fail
      refine (hOf.out).mono ?_
      rintro e v9 ⟨c9, er9, A9, cc9, rfl, hC9, hO9, hg9⟩
      have hb9 := (hbb).pure hg9
      have hgw9 := (hgw).t hg9
      obtain ⟨⟨d0, f0⟩, ⟨d1, f1⟩, ⟨d2, f2⟩, ⟨d3, f3⟩⟩ := box4_c hb9
      replace hC9 := hide hC9
      obtain ⟨n9, hn9⟩ : ∃ n, n = c9.rows.length := ⟨_, rfl⟩
      rw [← hn9]
      replace hn9 := hide hn9
      go_wp2_with fail
      clear d0 d1 d2 d3 f0 f1 f2 f3
      have hgf := gr_new hgw9 (set4_gr (w := v9) (g := xb2) (.int .i64 c9.step) (.int .i64 c9.x) (.int .i64 c9.y) (.slice A9 n9 cc9)) hxb2
      have hOf := (Own.lower hO9 ((hgw).size)).ne (set4_gr (w := v9) (g := xb2) (.int .i64 c9.step) (.int .i64 c9.x) (.int .i64 c9.y) (.slice A9 n9 cc9)) (fun x h e => hb9.ne_own hO9 (by decide) (by injection e with e; rw [e]; exact h))
      have hbf := box_set4 hb9 (.int .i64 c9.step) (.int .i64 c9.x) (.int .i64 c9.y) (.slice A9 n9 cc9)
      generalize (((v9.setCell ⟨xb2, 0, none⟩ (.int .i64 c9.step)).setCell ⟨xb2, 1, none⟩ (.int .i64 c9.x)).setCell ⟨xb2, 2, none⟩ (.int .i64 c9.y)).setCell ⟨xb2, 3, none⟩ (.slice A9 n9 cc9) = wf at *
      obtain ⟨⟨d0, f0⟩, ⟨d1, f1⟩, ⟨d2, f2⟩, ⟨d3, f3⟩⟩ := box4_c hbf
      exact bodyPost_ret (v := .tuple #[.agg #[.int .i64 c9.step, .int .i64 c9.x, .int .i64 c9.y, .slice A9 n9 cc9], .int .i64 er9]) (by simp [results, Tryz.results30, go_sem, d0, d1, d2, d3, f0, f1, f2, f3]) rfl ⟨c9, er9, A9, cc9, by rw [hn9.out], id hC9.out, hOf, hgf⟩
    · refine hide ?_
      have hkS := ((hRan.out.rem kx ky).1 hSx).1
      have hkb := hbd.out _ _ hkS
      have hRan2 := hide (hRan.out.next hSx)
      have hgw7 := gr_new hgw hg7 hr1
      have hM7 := hM.gr hg7 (by intro e; injection e with e; exact hrm e)
      have hba7 := hba.gr hg7 (by intro e; injection e with e; exact hxr.1 e.symm)
      have hbb7 := hbb.gr hg7 (by intro e; injection e with e; exact hxr.2 e.symm)
      have hAb := hide fun W => about_any ⟨kx, ky⟩ k W (by simp only; omega) (by simp only; omega) hk
      have hadd := hide fun x y => gro_add k V ⟨kx, ky⟩ x y
      clear hR hRan hgw hM hba hbb hg7 hSx hkS
      go_upto_region 5 with fail
      clear hen
      obtain ⟨w8, hw8⟩ : ∃ x, x = (w7).alloc (.cells [.int .i64 kx, .int .i64 ky].toArray 89) := ⟨_, rfl⟩
      have hg8 : (w7).grownBy w8 none := by rw [hw8]; exact gr_alloc (World.grownBy.refl _ _) _
      have hb8 : Box w8 (w7).heap.size 89 [.int .i64 kx, .int .i64 ky] := by rw [hw8]; exact Box.new _ _ _
      have hxs8 := hb8.lt
      rw [← hw8]
      clear hw8
      obtain ⟨x8, hx8⟩ : ∃ x, x = (w7).heap.size := ⟨_, rfl⟩
      rw [← hx8] at hb8 hxs8 ⊢
      have hxl8 : (w7).heap.size ≤ x8 := by omega
      clear hx8
      have hR8 := hR7.kept hg8 (by simp) (by simp)
      have hgw8 := hgw7.t hg8
      have hM8 := hM7.pure hg8
      have hba8 := hba7.pure hg8
      have hbb8 := hbb7.pure hg8
      obtain ⟨d0, -⟩ := hb8.c 0 rfl
      obtain ⟨d1, -⟩ := hb8.c 1 rfl
      clear hR7 hgw7 hM7 hba7 hbb7 hb8 hg8 hxs8 hxl8
      go_wp2_with fail
      refine (hAb.out w8).mono ?_
      rintro e w9 ⟨A9, c9, l, rfl, hO9, hal, hl9, hg9⟩
      have hR9 := hR8.kept hg9 (by simp) (by simp)
      have hgw9 := hgw8.t hg9
      have hM9 := hM8.pure hg9
      have hba9 := hba8.pure hg9
      have hbb9 := hbb8.pure hg9
      have hmo9 : mo < w8.heap.size := hM8.lt
      have hr9 : r < w8.heap.size := hR8.lt
      have hsl9 := hO9.sl
      have hT9 := hM9.congr (T := fun x y => groS k V x y || memL (l.take 0) x y) (fun x y => by simp [memL])
      have hcn2 : Hid (N + l.length + 1681 * cn7 ≤ 1681000000) := by have := hcn.out; simp only [Hid]; omega
      have hlb : Hid (∀ q ∈ l, (-3000000 ≤ q.x ∧ q.x ≤ 3000000) ∧ -3000000 ≤ q.y ∧ q.y ≤ 3000000) := fun q hq => by
        have := (hal q).1 hq
        simp only at this
        omega
      have hmem := hide fun x y => hal.mem x y
      clear d0 d1 hAb hR8 hgw8 hM8 hba8 hbb8 hg9 hM9 hal hO9 hcn
      go_wp2_with fail
      obtain ⟨wa, rfl⟩ : ∃ x, x = wr := ⟨wr, rfl⟩
      go_loopw [22] (fun i wx => ∃ j : Nat, j ≤ l.length ∧ i = .int .i64 j ∧ RangeOf spM wx b r 1000000 (setC S) (fun z => R z ∧ z ≠ ⟨kx, ky⟩) cn7 ∧ SetAt wx mo (N + j) (fun x y => groS k V x y || memL (l.take j) x y) ∧ Sl wx w8.heap.size A9 l ∧ Box wx xa2 34 ([.int .i64 (c).step, .int .i64 (c).x, .int .i64 (c).y, .slice A n cc]) ∧ Box wx xb2 34 ([.int .i64 0, .int .i64 0, .int .i64 0, .slice none 0 0]) ∧ w.grownBy wx none) (fun i _ => l.length - (intOf i).toNat)
      case atStart => exact ⟨0, Nat.zero_le _, rfl, hR9, hT9, hsl9, hba9, hbb9, hgw9⟩
      case round =>
        clear hR9 hT9 hsl9 hba9 hbb9 hgw9
        obtain ⟨j, hj, rfl, hR, hM, hsl, hba, hbb, hgw⟩ := hrel
        by_cases hlt : j < l.length
        · obtain ⟨q, o, cx, rfl, hb0, hb1, hrr, hcc⟩ := hsl.at_ (by decide) hlt
          have hqb := hlb.out _ (List.getElem_mem hlt)
          have hms : Hid (∀ x y, memL (l.take (j + 1)) x y = (memL (l.take j) x y || decide (x = l[j].x ∧ y = l[j].y))) := fun x y => by
            rw [List.take_succ_eq_append_getElem hlt, memL_snoc]
          generalize l[j] = Q at *
          subst hrr
          have p0 : wr.cell? ⟨q, o + j * 2, none⟩ = some (.int .i64 Q.x) := hcc 0 _ rfl
          have p1 : wr.cell? ⟨q, o + j * 2 + 1, none⟩ = some (.int .i64 Q.y) := hcc 1 _ rfl
          obtain ⟨qx, qy⟩ := Q
          simp only at hqb p0 p1 hms
          clear hcc
          go_upto_region 8 with fail
          obtain ⟨w10, hw10⟩ : ∃ x, x = (wr).alloc (.cells [.int .i64 qx, .int .i64 qy].toArray 89) := ⟨_, rfl⟩
          have hg10 : (wr).grownBy w10 none := by rw [hw10]; exact gr_alloc (World.grownBy.refl _ _) _
          have hb10 : Box w10 (wr).heap.size 89 [.int .i64 qx, .int .i64 qy] := by rw [hw10]; exact Box.new _ _ _
          have hxs10 := hb10.lt
          rw [← hw10]
          clear hw10
          obtain ⟨x10, hx10⟩ : ∃ x, x = (wr).heap.size := ⟨_, rfl⟩
          rw [← hx10] at hb10 hxs10 ⊢
          have hxl10 : (wr).heap.size ≤ x10 := by omega
          clear hx10
          obtain ⟨e0, -⟩ := hb10.c 0 rfl
          obtain ⟨e1, -⟩ := hb10.c 1 rfl
          have hNm : N + j < maxLen := by have := hcn2.out; unfold maxLen; omega
          obtain ⟨u3, hrun, hM3, hg3⟩ := (hM.pure hg10).store hNm (x := qx) (y := qy) (okSp_of (by omega) (by omega))
          have hR3 := (hR.kept hg10 (by simp) (by simp)).kept hg3 (by intro e; injection e with e; exact hbm e.symm) (by intro e; injection e with e; exact hrm e.symm)
          have hMN := hM3.congr (T := fun x y => groS k V x y || memL (l.take (j + 1)) x y) (fun x y => by rw [hms.out, Bool.or_assoc])
          have hslN := (hsl.pure hg10).gr hg3 (fun q e => by injection e; omega)
          have hbaN := (hba.pure hg10).gr hg3 (by intro e; injection e with e; exact hxm.1 e.symm)
          have hbbN := (hbb.pure hg10).gr hg3 (by intro e; injection e with e; exact hxm.2 e.symm)
          have hgN := gr_new (hgw.t hg10) hg3 hmow
          clear hR hM hsl hba hbb hgw hg10 hb10 hM3 hg3 hms
          go_wp2_with fail
          (go_roundw; (case rel => exact ⟨j + 1, by omega, by go_num, hR3, hMN, hslN, hbaN, hbbN, hgN⟩); (case measure => simp [intOf]; omega))
        · obtain rfl : j = l.length := by omega
          have hMN := hM.congr (T := groS k (fun x y => V x y || decide (x = kx ∧ y = ky))) (fun x y => by rw [List.take_length, hadd.out, hmem.out])
          clear hM
          go_wp2_with fail
          go_roundw
          case rel => exact ⟨_, _, cn7, N + l.length, hR, hRan2, hcn2, hMN, hba, hbb, hgw⟩
          case measure => rw [hR.left, hleft]; exact hlt7

end Go.Proofs.YtgcpegjggakemaaGreatDoor

namespace Go.Bl
open Go

theorem shr_near {k : Int} {S : Int → Int → Bool} {p : Pt} {l : List Pt} (h : AboutL p k l) : (!(l.any fun q => !S q.x q.y)) = shrS k S p.x p.y := by
  rw [Bool.eq_iff_iff, Bool.not_eq_true', List.any_eq_false, shr_iff]
  constructor
  · intro h1 i j hi1 hi2 hj1 hj2
    have := h1 ⟨p.x + i, p.y + j⟩ ((h _).2 (by simp only; omega))
    simpa using this
  · intro h1 q hq
    have h2 := (h q).1 hq
    have := h1 (q.x - p.x) (q.y - p.y) (by omega) (by omega) (by omega) (by omega)
    rw [show p.x + (q.x - p.x) = q.x by omega, show p.y + (q.y - p.y) = q.y by omega] at this
    simp [this]

end Go.Bl
namespace Go.Proofs.YtgcpegjggakemaaGreatDoor
open Go Go.RowKit Go.Bl

/-- the set that a closure holds, beside a row of cells -/
def ShH (w : World) (gc : Nat) (S : Int → Int → Bool) (l : List Pt) : Prop := (∀ q ∈ l, okSp q) ∧ ∃ b N, Box w gc 92 [.map (some b)] ∧ SetAt w b N S

theorem ShH.gr {w w' : World} {gc : Nat} {S : Int → Int → Bool} {l : List Pt} (h : ShH w gc S l) (hg : w.grownBy w' none) : ShH w' gc S l := by
  obtain ⟨h1, b, N, h2, h3⟩ := h
  exact ⟨h1, b, N, h2.pure hg, h3.pure hg⟩

set_option maxHeartbeats 1000000 in
theorem shrClo_any (S : Int → Int → Bool) (gc : Nat) (l : List Pt) (q : Pt) (w : World) (h : ShH w gc S l) (hq : q ∈ l) :
    Calls Tryz.prog 103 #[.agg #[.int .i64 q.x, .int .i64 q.y], .pointer (some ⟨gc, 0, none⟩)] w fun e w' => e = .returned (.bool (!S q.x q.y)) ∧ w.grownBy w' none := by
  obtain ⟨h1, b, N, h2, h3⟩ := h
  have hok := h1 q hq
  clear h1 hq
  obtain ⟨qx, qy⟩ := q
  simp only at *
  go_enter Tryz.func103, Tryz.ntmps103
  go_upto_region 1 with fail
  obtain ⟨w2, hw2⟩ : ∃ x, x = (w).alloc (.cells [.int .i64 qx, .int .i64 qy].toArray 89) := ⟨_, rfl⟩
  have hg2 : (w).grownBy w2 none := by rw [hw2]; exact gr_alloc (World.grownBy.refl _ _) _
  have hb2 : Box w2 (w).heap.size 89 [.int .i64 qx, .int .i64 qy] := by rw [hw2]; exact Box.new _ _ _
  have hxs2 := hb2.lt
  rw [← hw2]
  clear hw2
  obtain ⟨x2, hx2⟩ : ∃ x, x = (w).heap.size := ⟨_, rfl⟩
  rw [← hx2] at hb2 hxs2 ⊢
  have hxl2 : (w).heap.size ≤ x2 := by omega
  clear hx2
  obtain ⟨d0, -⟩ := hb2.c 0 rfl
  obtain ⟨d1, -⟩ := hb2.c 1 rfl
  obtain ⟨m0, -⟩ := (h2.pure hg2).c 0 rfl
  have hlk := (h3.pure hg2).look hok
  go_wp2_with fail
  go_ret
  exact ⟨rfl, hg2⟩

set_option maxHeartbeats 800000 in
set_option maxRecDepth 100000 in
theorem indexShr_any (S : Int → Int → Bool) (gc : Nat) (A : Option Addr) (c : Nat) (l : List Pt) (w : World) (hl : Sl w 0 A l) (hp : ShH w gc S l) :
    Calls Tryz.prog 154 #[.slice A l.length c, .func (.func 103) #[] #[.pointer (some ⟨gc, 0, none⟩)]] w fun e w' => ∃ r : Int, e = .returned (.int .i64 r) ∧ decide (0 ≤ r) = l.any (fun q => !S q.x q.y) ∧ w.grownBy w' none := by
  have hm := hl.1
  unfold maxLen at hm
  go_enter Tryz.func154, Tryz.ntmps154
  go_wp2
  go_loopw [8] (fun i wr => ∃ k : Nat, k ≤ l.length ∧ i = .int .i64 k ∧ w.grownBy wr none ∧ Hid ((l.take k).any (fun q => !S q.x q.y) = false)) (fun i _ => l.length - (intOf i).toNat)
  case atStart => exact ⟨0, Nat.zero_le _, rfl, World.grownBy.refl _ _, by simp [Hid]⟩
  case round =>
    obtain ⟨k, hk, rfl, hg, hall⟩ := hrel
    by_cases hlt : k < l.length
    · obtain ⟨g, o, cx, rfl, hb0, hb1, rfl, hc⟩ := (hl.pure hg).at_ (by decide) hlt
      have c0 : wr.cell? ⟨g, o + k * 2, none⟩ = some (.int .i64 l[k].x) := hc 0 _ rfl
      have c1 : wr.cell? ⟨g, o + k * 2 + 1, none⟩ = some (.int .i64 l[k].y) := hc 1 _ rfl
      clear hc
      have HS : Hid ((l.take (k + 1)).any (fun q => !S q.x q.y) = ((l.take k).any (fun q => !S q.x q.y) || (fun q => !S q.x q.y) l[k])) := by rw [Hid, take_snoc hlt, List.any_append]; simp
      have HA : Hid ((fun q => !S q.x q.y) l[k] = true → l.any (fun q => !S q.x q.y) = true) := fun h => List.any_eq_true.2 ⟨_, List.getElem_mem _, h⟩
      have hmem := List.getElem_mem hlt
      have hp' := ShH.gr hp hg
      generalize l[k] = f at *
      obtain ⟨bb, hbb⟩ : ∃ bb, (fun q => !S q.x q.y) f = bb := ⟨_, rfl⟩
      have hcon := shrClo_any S gc l f wr hp' hmem
      simp only [hbb] at hcon HS HA
      replace hcon := hide hcon
      replace hbb := hide hbb
      replace HS := hide HS
      replace HA := hide HA
      replace hmem := hide hmem
      go_wp2_with fail
      refine (hcon.out).mono ?_
      rintro e w' ⟨rfl, hg'⟩
      cases bb
      · go_wp2_with fail
        (go_roundw; (case rel => exact ⟨k + 1, by omega, by go_num, gr_trans hg hg', by rw [Hid, HS.out, hall.out]; rfl⟩); (case measure => simp [intOf]; omega))
      · have HB := hide (HA.out rfl)
        go_wp2_with fail
        go_ret
        exact ⟨k, rfl, by rw [HB.out]; simp, gr_trans hg hg'⟩
    · have HB : Hid (l.any (fun q => !S q.x q.y) = false) := by have := hall.out; rwa [List.take_of_length_le (by omega)] at this
      go_wp2
      go_ret
      exact ⟨-1, rfl, by rw [HB.out]; rfl, hg⟩

set_option maxHeartbeats 400000 in
theorem containsShr_any (S : Int → Int → Bool) (gc : Nat) (A : Option Addr) (c : Nat) (l : List Pt) (w : World) (hl : Sl w 0 A l) (hp : ShH w gc S l) :
    Calls Tryz.prog 102 #[.slice A l.length c, .func (.func 103) #[] #[.pointer (some ⟨gc, 0, none⟩)]] w fun e w' => e = .returned (.bool (l.any (fun q => !S q.x q.y))) ∧ w.grownBy w' none := by
  go_enter Tryz.func102, Tryz.ntmps102
  go_wp2_with fail
  refine (indexShr_any _ _ _ _ _ _ hl (by assumption)).mono ?_
  rintro e w1 ⟨r, rfl, hr, hg⟩
  replace hr := hide hr
  go_wp2_with fail
  go_ret
  exact ⟨ret_bool hr.out, hg⟩

set_option maxHeartbeats 4000000 in
set_option maxRecDepth 100000 in
theorem shrunkBy_any (c : Cel) (A : Option Addr) (n cc : Nat) (k : Int) (w : World) (ha : CArg w c A n) (hok : CellsOk c) (hk : 0 ≤ k ∧ k ≤ 20) :
    Calls Tryz.prog 31 #[.agg #[.int .i64 (c).step, .int .i64 (c).x, .int .i64 (c).y, .slice A n cc], .int .i64 k] w fun e w' => CelsOut w w' c.step (shrS k (onC c)) e := by
  have hbd : Hid (∀ x y, onC c x y = true → (-2000000 ≤ x ∧ x ≤ 2000200) ∧ -2000000 ≤ y ∧ y ≤ 2000200) := fun x y h => on_bdG hok h
  have hin : Hid (∀ x y, shrS k (onC c) x y = true → -10000000 ≤ x ∧ x ≤ 10001000 ∧ -10000000 ≤ y ∧ y ≤ 10001000) := fun x y h => by
    have h3 := shr_iff.1 h 0 0 (by omega) (by omega) (by omega) (by omega)
    rw [Int.add_zero, Int.add_zero] at h3
    have := hbd.out _ _ h3
    omega
  have hsp := step_pos hok.step
  have hSa := hide (fun W (h : w.grownBy W none) => setOf_any c A n cc W (ha.pure h) hok.fit)
  clear ha hok
  generalize onC c = S at *
  go_enter Tryz.func31, Tryz.ntmps31
  go_upto_region 1 with fail
  obtain ⟨w2, hw2⟩ : ∃ x, x = ((w).alloc (.cells [.int .i64 (c).step, .int .i64 (c).x, .int .i64 (c).y, .slice A n cc].toArray 34)).alloc (.cells [.int .i64 0, .int .i64 0, .int .i64 0, .slice none 0 0].toArray 34) := ⟨_, rfl⟩
  have hba2 : Box w2 (w).heap.size 34 [.int .i64 (c).step, .int .i64 (c).x, .int .i64 (c).y, .slice A n cc] := by
    rw [hw2]; exact (Box.new (w) [.int .i64 (c).step, .int .i64 (c).x, .int .i64 (c).y, .slice A n cc] 34).pure (gr_alloc (World.grownBy.refl _ _) _)
  have hbb2 : Box w2 ((w).heap.size + 1) 34 [.int .i64 0, .int .i64 0, .int .i64 0, .slice none 0 0] := by
    have h := Box.new ((w).alloc (.cells [.int .i64 (c).step, .int .i64 (c).x, .int .i64 (c).y, .slice A n cc].toArray 34)) [.int .i64 0, .int .i64 0, .int .i64 0, .slice none 0 0] 34
    rw [show ((w).alloc (.cells [.int .i64 (c).step, .int .i64 (c).x, .int .i64 (c).y, .slice A n cc].toArray 34)).heap.size = (w).heap.size + 1 by simp] at h
    rw [hw2]; exact h
  have hg2 : (w).grownBy w2 none := by rw [hw2]; exact (by repeat (first | exact World.grownBy.refl _ _ | assumption | refine gr_alloc ?_ _ | (apply gr_tail; assumption) | refine gr_drewN ?_ _ | refine gr_drew ?_))
  rw [← hw2]
  clear hw2
  obtain ⟨xb2, hxb2⟩ : ∃ x, x = (w).heap.size + 1 := ⟨_, rfl⟩
  rw [← hxb2] at hbb2 ⊢
  obtain ⟨xa2, hxa2⟩ : ∃ x, x = (w).heap.size := ⟨_, rfl⟩
  rw [← hxa2] at hba2 ⊢
  have hxn2 : xa2 ≠ xb2 := by omega
  replace hxa2 : (w).heap.size ≤ xa2 := by omega
  replace hxb2 : (w).heap.size ≤ xb2 := by omega
  obtain ⟨⟨a0, -⟩, ⟨a1, -⟩, ⟨a2, -⟩, ⟨a3, -⟩⟩ := box4_c hba2
  go_wp2_with fail
  refine (hSa.out w2 hg2).mono ?_
  rintro e w3 ⟨b, rfl, hSb, hg3, hbl⟩
  have hmk := run_makeMap (P := Tryz.prog) 92 w3
  go_upto_region 2 with fail
  have hM3 := SetAt.made w3
  obtain ⟨v3, hv3⟩ : ∃ x, x = w3.alloc (.map #[] 0) := ⟨_, rfl⟩
  have hsz : w3.heap.size + 1 = v3.heap.size := by rw [hv3]; simp
  have hgv : w3.grownBy v3 none := by rw [hv3]; exact gr_alloc (World.grownBy.refl _ _) _
  rw [hsz, ← hv3]
  rw [← hv3] at hM3
  obtain ⟨mo, hmo⟩ : ∃ x, x = w3.heap.size := ⟨_, rfl⟩
  rw [← hmo] at hM3 ⊢
  obtain ⟨w6, hw6⟩ : ∃ x, x = (v3).alloc (.cells [.map (some b)].toArray 92) := ⟨_, rfl⟩
  have hg6 : (v3).grownBy w6 none := by rw [hw6]; exact gr_alloc (World.grownBy.refl _ _) _
  have hb6 : Box w6 (v3).heap.size 92 [.map (some b)] := by rw [hw6]; exact Box.new _ _ _
  have hxs6 := hb6.lt
  rw [← hw6]
  clear hw6
  obtain ⟨x6, hx6⟩ : ∃ x, x = (v3).heap.size := ⟨_, rfl⟩
  rw [← hx6] at hb6 hxs6 ⊢
  have hxl6 : (v3).heap.size ≤ x6 := by omega
  clear hx6
  have hbm : b ≠ mo := by have := hSb.lt; omega
  have hz2 := hg2.size
  have hz3 := hg3.size
  have hmow : w.heap.size ≤ mo := by omega
  have hxm : xa2 ≠ mo ∧ xb2 ≠ mo := by have := hba2.lt; have := hbb2.lt; omega
  have hx6m : x6 ≠ mo := by omega
  have hg36 := hgv.t hg6
  have hM6 := hM3.pure hg6
  have hS6 := hSb.pure hg36
  have hgw6 := (hg2.t hg3).t hg36
  have hba6 := (hba2.pure hg3).pure hg36
  have hbb6 := (hbb2.pure hg3).pure hg36
  clear hv3 hsz hmo hmk hM3 hSb hg2 hg3 hg36 hgv hg6 hba2 hbb2 a0 a1 a2 a3 hSa hz2 hz3 hxl6 hbl
  obtain ⟨m0, -⟩ := hb6.c 0 rfl
  go_wp2_with (at_range; refine wpList_range_C _ rfl _ rfl b _ _ rfl hS6 ?_; intro w5 cnt hR hg5 hs5)
  clear m0
  obtain ⟨r, hr⟩ : ∃ r, r = w6.heap.size := ⟨_, rfl⟩
  rw [← hr] at hR ⊢
  have hr1 : w.heap.size ≤ r := by have := hgw6.size; omega
  have hrm : r ≠ mo := by have := hM6.lt; omega
  have hxr : xa2 ≠ r ∧ xb2 ≠ r ∧ x6 ≠ r := by have := hba6.lt; have := hbb6.lt; omega
  clear hr
  have hgw := hgw6.t hg5
  have hRan := hide (Ran.start S)
  obtain ⟨-, hcnt⟩ := hs5
  replace hba := hba6.pure hg5
  replace hbb := hbb6.pure hg5
  replace hb6 := hb6.pure hg5
  have hM5 := (hM6.pure hg5).congr (T := fun x y => false && shrS k S x y) (fun x y => rfl)
  clear hS6 hg5 hgw6 hM6 hba6 hbb6 hxs6
  have hcn0 : Hid (0 + cnt ≤ 1000000) := by simp only [Hid]; omega
  go_frame
  go_loopw [8] (fun _ wr => ∃ (R : Pt → Prop) (V : Int → Int → Bool) (cn N : Nat), RangeOf spM wr b r 1000000 (setC S) R cn ∧ Hid (Ran S R V) ∧ Hid (N + cn ≤ 1000000) ∧ SetAt wr mo N (fun x y => V x y && shrS k S x y) ∧ Box wr x6 92 [.map (some b)] ∧ Box wr xa2 34 ([.int .i64 (c).step, .int .i64 (c).x, .int .i64 (c).y, .slice A n cc]) ∧ Box wr xb2 34 ([.int .i64 0, .int .i64 0, .int .i64 0, .slice none 0 0]) ∧ w.grownBy wr none) (fun _ wr => wr.rangeLeft b r)
  case atStart => exact ⟨_, _, cnt, 0, hR, hRan, hcn0, hM5, hb6, hba, hbb, hgw⟩
  case round =>
    clear hR hRan hgw hcnt hcn0 hM5 hba hbb hb6
    obtain ⟨R, V, cn, N, hR, hRan, hcn, hM, hb6, hba, hbb, hgw⟩ := hrel
    have hleft := hR.left
    have hne := hR.ne
    have hlr := hR.lt
    go_wp2_with (at_next; refine wpList_next_C _ rfl _ rfl b r _ _ R cn rfl hR (fun h0 hnS => Hid.out ?_) (fun kx ky w7 cn7 hox hSx hR7 hlt7 hg7 hen => Hid.out ?_))
    · refine hide ?_
      have hno : ∀ k, ¬ R k := spM_ok (fun x y h => by have := hbd.out x y h; exact okSp_of (by omega) (by omega)) hRan.out hnS
      have hall := hRan.out.done hno
      have hMf := hM.congr (T := shrS k S) (fun x y => by
        rw [hall]
        rcases hs : shrS k S x y with _ | _
        · rw [Bool.and_false]
        · have h3 := shr_iff.1 hs 0 0 (by omega) (by omega) (by omega) (by omega)
          rw [Int.add_zero, Int.add_zero] at h3
          rw [h3]; rfl)
      have hOf := hide (cellsOf_any mo N (shrS k S) c.step wr hMf hsp hin.out)
      obtain ⟨a0, -⟩ := hba.c 0 rfl
      clear hnS hR hRan hno hM hMf hall hb6
      go_wp2_with fail
      refine (hOf.out).mono ?_
      rintro e v9 ⟨c9, er9, A9, cc9, rfl, hC9, hO9, hg9⟩
      have hb9 := (hbb).pure hg9
      have hgw9 := (hgw).t hg9
      obtain ⟨⟨d0, f0⟩, ⟨d1, f1⟩, ⟨d2, f2⟩, ⟨d3, f3⟩⟩ := box4_c hb9
      replace hC9 := hide hC9
      obtain ⟨n9, hn9⟩ : ∃ n, n = c9.rows.length := ⟨_, rfl⟩
      rw [← hn9]
      replace hn9 := hide hn9
      go_wp2_with fail
      clear d0 d1 d2 d3 f0 f1 f2 f3
      have hgf := gr_new hgw9 (set4_gr (w := v9) (g := xb2) (.int .i64 c9.step) (.int .i64 c9.x) (.int .i64 c9.y) (.slice A9 n9 cc9)) hxb2
      have hOf := (Own.lower hO9 ((hgw).size)).ne (set4_gr (w := v9) (g := xb2) (.int .i64 c9.step) (.int .i64 c9.x) (.int .i64 c9.y) (.slice A9 n9 cc9)) (fun x h e => hb9.ne_own hO9 (by decide) (by injection e with e; rw [e]; exact h))
      have hbf := box_set4 hb9 (.int .i64 c9.step) (.int .i64 c9.x) (.int .i64 c9.y) (.slice A9 n9 cc9)
      generalize (((v9.setCell ⟨xb2, 0, none⟩ (.int .i64 c9.step)).setCell ⟨xb2, 1, none⟩ (.int .i64 c9.x)).setCell ⟨xb2, 2, none⟩ (.int .i64 c9.y)).setCell ⟨xb2, 3, none⟩ (.slice A9 n9 cc9) = wf at *
      obtain ⟨⟨d0, f0⟩, ⟨d1, f1⟩, ⟨d2, f2⟩, ⟨d3, f3⟩⟩ := box4_c hbf
      exact bodyPost_ret (v := .tuple #[.agg #[.int .i64 c9.step, .int .i64 c9.x, .int .i64 c9.y, .slice A9 n9 cc9], .int .i64 er9]) (by simp [results, Tryz.results31, go_sem, d0, d1, d2, d3, f0, f1, f2, f3]) rfl ⟨c9, er9, A9, cc9, by rw [hn9.out], id hC9.out, hOf, hgf⟩
    · refine hide ?_
      have hkS := ((hRan.out.rem kx ky).1 hSx).1
      have hkb := hbd.out _ _ hkS
      have hRan2 := hide (hRan.out.next hSx)
      have hgw7 := gr_new hgw hg7 hr1
      have hM7 := hM.gr hg7 (by intro e; injection e with e; exact hrm e)
      have hba7 := hba.gr hg7 (by intro e; injection e with e; exact hxr.1 e.symm)
      have hbb7 := hbb.gr hg7 (by intro e; injection e with e; exact hxr.2.1 e.symm)
      have hb67 := hb6.gr hg7 (by intro e; injection e with e; exact hxr.2.2 e.symm)
      have hAb := hide fun W => about_any ⟨kx, ky⟩ k W (by simp only; omega) (by simp only; omega) hk
      clear hR hRan hgw hM hba hbb hb6 hg7 hSx hkS
      go_upto_region 5 with fail
      clear hen
      obtain ⟨w8, hw8⟩ : ∃ x, x = (w7).alloc (.cells [.int .i64 kx, .int .i64 ky].toArray 89) := ⟨_, rfl⟩
      have hg8 : (w7).grownBy w8 none := by rw [hw8]; exact gr_alloc (World.grownBy.refl _ _) _
      have hb8 : Box w8 (w7).heap.size 89 [.int .i64 kx, .int .i64 ky] := by rw [hw8]; exact Box.new _ _ _
      have hxs8 := hb8.lt
      rw [← hw8]
      clear hw8
      obtain ⟨x8, hx8⟩ : ∃ x, x = (w7).heap.size := ⟨_, rfl⟩
      rw [← hx8] at hb8 hxs8 ⊢
      have hxl8 : (w7).heap.size ≤ x8 := by omega
      clear hx8
      have hR8 := hR7.kept hg8 (by simp) (by simp)
      have hgw8 := hgw7.t hg8
      have hM8 := hM7.pure hg8
      have hba8 := hba7.pure hg8
      have hbb8 := hbb7.pure hg8
      have hb68 := hb67.pure hg8
      obtain ⟨d0, -⟩ := hb8.c 0 rfl
      obtain ⟨d1, -⟩ := hb8.c 1 rfl
      clear hR7 hgw7 hM7 hba7 hbb7 hb67 hg8 hxs8 hxl8
      go_wp2_with fail
      refine (hAb.out w8).mono ?_
      rintro e w9 ⟨A9, c9, l, rfl, hO9, hal, hl9, hg9⟩
      have hR9 := hR8.kept hg9 (by simp) (by simp)
      have hb9 := hb8.pure hg9
      have hgw9 := hgw8.t hg9
      have hM9 := hM8.pure hg9
      have hba9 := hba8.pure hg9
      have hbb9 := hbb8.pure hg9
      have hb69 := hb68.pure hg9
      have hsl9 := hO9.sl.mono (Nat.zero_le _)
      have hSH : ShH w9 x6 S l := ⟨fun q hq => by
        have := (hal q).1 hq
        simp only at this
        exact okSp_of (by omega) (by omega), b, 1000000, hb69, hR9.map⟩
      have hCo := hide (containsShr_any S x6 A9 c9 l w9 hsl9 hSH)
      have hnr : (!(l.any fun q => !S q.x q.y)) = shrS k S kx ky := shr_near hal
      generalize (l.any fun q => !S q.x q.y) = any0 at *
      obtain ⟨v, hv⟩ : ∃ v, v = shrS k S kx ky := ⟨_, rfl⟩
      rw [← hv] at hnr
      have ha0 : any0 = !v := by rw [← hnr, Bool.not_not]
      subst ha0
      replace hv := hide hv
      clear d0 d1 hAb hR8 hgw8 hM8 hba8 hbb8 hb68 hg9 hal hO9 hnr hSH hsl9 hb8
      go_wp2_with fail
      refine hCo.out.mono ?_
      rintro e w10 ⟨rfl, hg10⟩
      have hR10 := hR9.kept hg10 (by simp) (by simp)
      have hb10 := hb9.pure hg10
      have hgw10 := hgw9.t hg10
      have hM10 := hM9.pure hg10
      have hba10 := hba9.pure hg10
      have hbb10 := hbb9.pure hg10
      have hb610 := hb69.pure hg10
      obtain ⟨d0, -⟩ := hb10.c 0 rfl
      obtain ⟨d1, -⟩ := hb10.c 1 rfl
      have hnext : Hid (∀ x y, ((V x y || decide (x = kx ∧ y = ky)) && shrS k S x y) = ((V x y && shrS k S x y) || (v && decide (x = kx ∧ y = ky)))) := fun x y => by
        by_cases e : x = kx ∧ y = ky
        · obtain ⟨rfl, rfl⟩ := e
          rw [← hv.out]
          cases v <;> simp
        · simp [e]
      clear hCo hR9 hb9 hgw9 hM9 hba9 hbb9 hb69 hg10 hv
      cases v
      · have hMN := hM10.congr (T := fun x y => (V x y || decide (x = kx ∧ y = ky)) && shrS k S x y) (fun x y => by rw [hnext.out]; simp)
        have hcn2 : Hid (N + cn7 ≤ 1000000) := by have := hcn.out; simp only [Hid]; omega
        clear hM10
        go_wp2_with fail
        go_roundw
        case rel => exact ⟨_, _, cn7, N, hR10, hRan2, hcn2, hMN, hb610, hba10, hbb10, hgw10⟩
        case measure => rw [hR10.left, hleft]; exact hlt7
      · have hNm : N < maxLen := by have := hcn.out; unfold maxLen; omega
        obtain ⟨u3, hrun, hM3, hg3⟩ := hM10.store hNm (x := kx) (y := ky) (okSp_of (by omega) (by omega))
        have hMN := hM3.congr (T := fun x y => (V x y || decide (x = kx ∧ y = ky)) && shrS k S x y) (fun x y => by rw [hnext.out]; simp)
        have hR3 := hR10.kept hg3 (by intro e; injection e with e; exact hbm e.symm) (by intro e; injection e with e; exact hrm e.symm)
        have hbaN := hba10.gr hg3 (by intro e; injection e with e; exact hxm.1 e.symm)
        have hbbN := hbb10.gr hg3 (by intro e; injection e with e; exact hxm.2 e.symm)
        have hb6N := hb610.gr hg3 (by intro e; injection e with e; exact hx6m e.symm)
        have hgN := gr_new hgw10 hg3 hmow
        have hcn2 : Hid (N + 1 + cn7 ≤ 1000000) := by have := hcn.out; simp only [Hid]; omega
        clear hM10 hM3 hR10 hba10 hbb10 hb610 hgw10 hg3
        go_wp2_with fail
        go_roundw
        case rel => exact ⟨_, _, cn7, N + 1, hR3, hRan2, hcn2, hMN, hb6N, hbaN, hbbN, hgN⟩
        case measure => rw [hR3.left, hleft]; exact hlt7

end Go.Proofs.YtgcpegjggakemaaGreatDoor

namespace Go.Bl
open Go

theorem Sl.dropQ {α : Type} [Enc α] {w : World} {lo : Nat} {g o : Nat} {l : List α} (h : Sl w lo (some ⟨g, o, none⟩) l) (k : Nat) : Sl w lo (some ⟨g, o + k * Enc.sz α, none⟩) (l.drop k) := by
  obtain ⟨hm, cs, hr, hl⟩ := h
  refine ⟨by rw [List.length_drop]; omega, _, hr.drop k, fun hne => ?_⟩
  obtain ⟨ad, e, hb, hc⟩ := hl (by rintro rfl; simp at hne)
  injection e with e
  subst e
  refine ⟨_, rfl, hb, fun j u hu => ?_⟩
  rw [List.getElem?_drop] at hu
  have := hc _ u hu
  rw [Addr.add_lit] at this ⊢
  rwa [Nat.add_assoc]
/-- what an append leaves: the old row, or a new one -/
def GrewQ (A A' : Option Addr) (w w' : World) : Prop := w.grownBy w' (blk A) ∧ (blk A' = blk A ∨ ∀ g, blk A' = some g → w.heap.size ≤ g)

theorem GrewQ.of {A A' : Option Addr} {w w' : World} (h : Grew A A' w w') : GrewQ A A' w w' := ⟨h.1, h.2.imp id fun e g e2 => by rw [e] at e2; injection e2 with e2; omega⟩
/-- a slice that reads as a list and whose room may be written -/
def Que {α : Type} [Enc α] (w : World) (lo : Nat) (A : Option Addr) (c : Nat) (l : List α) : Prop :=
  Sl w lo A l ∧ l.length ≤ c ∧ c ≤ maxLen ∧ ((A = none ∧ c = 0) ∨ ∃ g o, A = some ⟨g, o, none⟩ ∧ lo ≤ g ∧ g < w.heap.size ∧ ∀ j, j < c * Enc.sz α → (w.cell? ⟨g, o + j, none⟩).isSome = true ∧ w.frozen? ⟨g, o + j, none⟩ = false)

theorem Que.blk_lt {α : Type} [Enc α] {w : World} {lo : Nat} {A : Option Addr} {c : Nat} {l : List α} (h : Que w lo A c l) {g : Nat} (hb : blk A = some g) : lo ≤ g ∧ g < w.heap.size := by
  rcases h.2.2.2 with ⟨h4, -⟩ | ⟨g', o', rfl, h5, h6, -⟩
  · subst h4; cases hb
  · have : g' = g := by simpa [blk] using hb
    subst this; exact ⟨h5, h6⟩
section
variable {α : Type} [Enc α] {w w' : World} {lo : Nat} {A : Option Addr} {c : Nat} {l : List α}

theorem Que.of {e : TypeId} (h : Own w lo e A c l) : Que w lo A c l := by
  refine ⟨h.sl, h.cap, ?_, ?_⟩
  · obtain ⟨hm, cs, hr, ho⟩ := h
    rcases ho.2 with ⟨h1, h2⟩ | ⟨g, cap, cur, hv, hb, hh, hn, hc, _⟩
    · injection h1 with a b d
      rw [d]; exact Nat.zero_le _
    · injection hv with a b d
      rw [d]; exact hc
  · have h' := h
    obtain ⟨hm, cs, hr, ho⟩ := h'
    rcases ho.2 with ⟨h1, h2⟩ | ⟨g, cap, cur, hv, hb, hh, hn, hc, hs, ht⟩
    · injection h1 with a b d
      exact .inl ⟨a, d⟩
    · injection hv with a b d
      subst a; subst d
      refine .inr ⟨g, 0, rfl, hb, (h.blk_lt rfl).2, fun j hj => ?_⟩
      rw [Nat.zero_add]
      refine ⟨?_, h.frozen j⟩
      rw [cell_of_row _ _ _ _ _ _ hh, Array.getElem?_eq_getElem (by omega)]
      rfl

theorem Que.tail {g o : Nat} {x : α} (h : Que w lo (some ⟨g, o, none⟩) c (x :: l)) : Que w lo (if c = 1 then some ⟨g, o, none⟩ else some ⟨g, o + Enc.sz α, none⟩) (c - 1) l := by
  obtain ⟨h1, h2, h3, h4⟩ := h
  rw [List.length_cons] at h2
  rcases h4 with ⟨h4, -⟩ | ⟨g', o', e, h5, h6, h7⟩
  · cases h4
  · injection e with e
    injection e with e1 e2
    subst e1; subst e2
    by_cases hc : c = 1
    · subst hc
      rw [if_pos rfl]
      have : l = [] := List.eq_nil_of_length_eq_zero (by omega)
      subst this
      refine ⟨⟨by simp, [], rfl, fun h => absurd rfl h⟩, by simp, by omega, .inr ⟨g, o, rfl, h5, h6, fun j hj => ?_⟩⟩
      simp at hj
    · rw [if_neg hc]
      have h8 := h1.dropQ 1
      rw [List.drop_one, List.tail_cons, Nat.one_mul] at h8
      refine ⟨h8, by omega, by omega, .inr ⟨g, o + Enc.sz α, rfl, h5, h6, fun j hj => ?_⟩⟩
      have e : (c - 1) * Enc.sz α + Enc.sz α = c * Enc.sz α := by
        have := Nat.succ_mul (c - 1) (Enc.sz α)
        rw [show (c - 1).succ = c by omega] at this
        exact this.symm
      rw [Nat.add_assoc]
      exact h7 _ (by omega)

theorem Own.pastGr (w : World) (g : Nat) : ∀ (vs : List Value) (j : Nat), w.grownBy (w.setCells g j vs) (some g)
  | [], _ => World.grownBy.refl _ _
  | v :: r, j => gr_trans (gr_set (World.grownBy.refl w (some g)) (p := ⟨g, j, none⟩) (.inl rfl) v) (Own.pastGr _ g r (j + 1))
variable [Flat α]

theorem Que.gr {q : Option Nat} (h : Que w lo A c l) (hg : w.grownBy w' q) (hq : ∀ g, blk A = some g → q ≠ some g) : Que w' lo A c l := by
  obtain ⟨h1, h2, h3, h4⟩ := h
  refine ⟨h1.ne hg hq, h2, h3, ?_⟩
  rcases h4 with h4 | ⟨g, o, rfl, h5, h6, h7⟩
  · exact .inl h4
  · have hb := hg.block g h6 (fun e => hq g rfl e.symm)
    exact .inr ⟨g, o, rfl, h5, Nat.lt_of_lt_of_le h6 hg.size, fun j hj => by
      rw [World.cell?_of_block (a := ⟨g, o + j, none⟩) hb, World.frozen?_of_block (a := ⟨g, o + j, none⟩) hb]
      exact h7 j hj⟩

theorem Que.pure (h : Que w lo A c l) (hg : w.grownBy w' none) : Que w' lo A c l := h.gr hg (fun _ _ e => by cases e)
variable {P : Program}

theorem run_pushQ (t ty e : TypeId) (i : TypeInfo) (z : Value) (bytes : Nat) (ht : P.underlying t = some (.slice e)) (hi : P.info? e = some i) (hz : i.zero = some z)
    (hsize : i.size = Enc.sz α) (hby : i.bytes = bytes) (hzs : z.cells.size = Enc.sz α)
    (hq : Que w lo A c l) (lo2 : Nat) (X : Option Addr) (cc : Nat) (l2 : List α) (hsl : Sl w lo2 X l2)
    (hbytes : (l.length + l2.length) * bytes ≤ 140737488355328) (h63 : l.length + l2.length ≤ maxLen) (hbase : lo ≤ w.heap.size) :
    ∃ A' c' w', (Builtin.append_ #[t, t] ty #[.slice A l.length c, .slice X l2.length cc]).run P w = .ok (.slice A' (l ++ l2).length c') w' ∧ Que w' lo A' c' (l ++ l2) ∧ GrewQ A A' w w' := by
  obtain ⟨h1, h2, h3, h4⟩ := hq
  rcases Nat.eq_zero_or_pos l2.length with h0 | h0
  · obtain rfl := List.eq_nil_of_length_eq_zero h0
    refine ⟨A, c, w, ?_, by rw [List.append_nil]; exact ⟨h1, h2, h3, h4⟩, World.grownBy.refl _ _, .inl rfl⟩
    rw [List.append_nil]
    exact run_append_zero w t ty e i ht hi A X l.length c cc h2
  · obtain ⟨ga, oa, cx, rfl, -⟩ := hsl.at_ Flat.pos h0
    rcases h4 with ⟨rfl, rfl⟩ | ⟨g, o, rfl, h5, h6, h7⟩
    · have hl0 : l = [] := List.eq_nil_of_length_eq_zero (by omega)
      subst hl0
      obtain ⟨A', c', w', r1, r2, r3⟩ := run_pushAt (P := P) w lo t ty e i z bytes ht hi hz hsize hby hzs none 0 [] (Own.nil w lo e) lo2 _ cc l2 hsl hbytes h63 hbase
      exact ⟨A', c', w', r1, .of r2, .of r3⟩
    · obtain ⟨hm, cs, hr, hc⟩ := h1
      obtain ⟨hm2, cs2, hr2, hc2⟩ := hsl
      have hlen : cs.length = l.length * Enc.sz α := hr.len
      have hlen2 : cs2.length = l2.length * Enc.sz α := hr2.len
      have hnews : ∀ j u, cs2[j]? = some u → w.cell? ((⟨ga, oa, none⟩ : Addr).add j) = some u := fun j u hu => by
        obtain ⟨ad', e1, _, e3⟩ := hc2 (by rintro rfl; simp at hu)
        injection e1 with e1
        subst e1
        exact e3 j u hu
      have hrow : Row w lo (l ++ l2) (cs ++ cs2) := (hr.flat).append (hr2.flat)
      have hll : (l ++ l2).length = l.length + l2.length := List.length_append
      have holds : ∀ j u, cs[j]? = some u → w.cell? ⟨g, o + j, none⟩ = some u := fun j u hu => by
        obtain ⟨ad', e1, _, e3⟩ := hc (by rintro rfl; simp at hu)
        injection e1 with e1
        subst e1
        have := e3 j u hu
        rwa [Addr.add_lit] at this
      by_cases hroom : l.length + l2.length ≤ c
      · have hmul : (l.length + l2.length) * Enc.sz α ≤ c * Enc.sz α := Nat.mul_le_mul_right _ hroom
        rw [Nat.add_mul] at hmul
        have hcc : ∀ j, j < cs2.length → (w.cell? ⟨g, o + l.length * i.size + j, none⟩).isSome = true := fun j hj => by
          rw [hsize, Nat.add_assoc]; exact (h7 _ (by omega)).1
        have hff : ∀ j, j < cs2.length → w.frozen? ⟨g, o + l.length * i.size + j, none⟩ = false := fun j hj => by
          rw [hsize, Nat.add_assoc]; exact (h7 _ (by omega)).2
        have hrun := run_append_room_cells (P := P) w t ty e i ht hi g o l.length c ⟨ga, oa, none⟩ l2.length cc cs2 (by rw [hsize]; exact hlen2) hnews hr2.one hroom hcc hff
        have hgw := Own.pastGr w g cs2 (o + l.length * i.size)
        refine ⟨some ⟨g, o, none⟩, c, _, by rw [hrun, hll], ⟨⟨by omega, cs ++ cs2, (hr.flat).append (hr2.flat), fun _ => ⟨_, rfl, h5, fun j u hu => ?_⟩⟩, by omega, h3, .inr ⟨g, o, rfl, h5, by have := hgw.size; omega, fun j hj => ?_⟩⟩, hgw, .inl rfl⟩
        · rw [Addr.add_lit]
          by_cases hj : j < cs.length
          · rw [List.getElem?_append_left hj] at hu
            rw [World.cell?_setCells_out _ _ _ _ _ (fun _ _ => .inl (by simp only; rw [hsize]; omega))]
            exact holds j u hu
          · rw [List.getElem?_append_right (by omega)] at hu
            obtain ⟨hj2, hu2⟩ := List.getElem?_eq_some_iff.1 hu
            have h9 := World.cell?_setCells_in g cs2 (o + l.length * i.size) w hcc (j - cs.length) hj2
            rw [hu2] at h9
            rw [← h9]
            congr 2
            rw [hsize]; omega
        · rw [World.frozen?_setCells]
          refine ⟨?_, (h7 j hj).2⟩
          by_cases hj2 : o + l.length * i.size ≤ o + j ∧ o + j < o + l.length * i.size + cs2.length
          · have h9 := World.cell?_setCells_in g cs2 (o + l.length * i.size) w hcc (o + j - (o + l.length * i.size)) (by omega)
            rw [show o + l.length * i.size + (o + j - (o + l.length * i.size)) = o + j by omega] at h9
            rw [h9]; rfl
          · rw [World.cell?_setCells_out _ _ _ _ _ (fun _ _ => by simp only; omega)]
            exact (h7 j hj).1
      · obtain ⟨v', w', r1, r2, r3⟩ := run_append_arg_grows (P := P) w t ty e i z (Enc.sz α) bytes ht hi hz hsize hby hzs Flat.pos ⟨g, o, none⟩ l.length c cs hlen (fun j u hu => by rw [Addr.add_lit]; exact holds j u hu) ⟨ga, oa, none⟩ l2.length cc cs2 hlen2 hnews (by omega) h63 hbytes
        rcases r2.2 with ⟨_, hz0⟩ | ⟨g', cap, cur, rfl, hbg, hg', hnc, hcm, hcs, htk⟩
        · omega
        · have hO : Own w' w.heap.size e (some ⟨g', 0, none⟩) cap (l ++ l2) := ⟨by omega, cs ++ cs2, (hr.flat).append (hr2.flat), by rw [hll]; exact r2⟩
          have hgl : g' < w'.heap.size := (hO.blk_lt rfl).2
          have hnew : ∀ q, blk (some ⟨g', 0, none⟩ : Option Addr) = some q → w.heap.size ≤ q := fun q e => by
            have e2 : g' = q := by simpa [blk] using e
            omega
          exact ⟨some ⟨g', 0, none⟩, cap, w', by rw [r1, hll], .of (hO.lower hbase), gr_any r3, .inr hnew⟩

theorem wpList_pushQ {ops : Array Oper} {rest : List Oper} {o : Oper} {a : Act} {Q : Exit → Act → World → Prop} (w : World) (hgd : o.guard = none) (s x : Operand) (t : TypeId)
    (ho : o.op = .call { callee := .builtin .append, args := #[s, x], argTypes := #[t, t] })
    (lo : Nat) (e : TypeId) (i : TypeInfo) (z : Value) (bytes : Nat) (ht : P.underlying t = some (.slice e)) (hi : P.info? e = some i) (hz : i.zero = some z)
    (hsize : i.size = Enc.sz α) (hby : i.bytes = bytes) (hzs : z.cells.size = Enc.sz α)
    (A : Option Addr) (n c : Nat) (l : List α) (hs : a.eval s = .slice A n c) (hn : n = l.length) (hq : Que w lo A c l)
    (lo2 : Nat) (X : Option Addr) (m cc : Nat) (l2 : List α) (hx : a.eval x = .slice X m cc) (hm : m = l2.length) (hsl : Sl w lo2 X l2)
    (hbytes : (l.length + l2.length) * bytes ≤ 140737488355328) (h63 : l.length + l2.length ≤ maxLen) (hbase : lo ≤ w.heap.size)
    (h : ∀ A' c' w', Que w' lo A' c' (l ++ l2) → GrewQ A A' w w' → wpList P ops Q rest (a.put o.dst (.slice A' (l ++ l2).length c')) w') : wpList P ops Q (o :: rest) a w := by
  subst hn
  subst hm
  obtain ⟨A', c', w', hrun, h2, h3⟩ := run_pushQ (P := P) t o.type e i z bytes ht hi hz hsize hby hzs hq lo2 X cc l2 hsl hbytes h63 hbase
  exact Lib.wpList_append_run w hgd s x t t ho _ _ hs hx _ _ hrun (h A' c' w' h2 h3)
end

end Go.Bl

/- Contracts of functions that this seat's laws reach, each: what one call returns and what it leaves in memory; no condition beyond each theorem's own hypotheses. -/
import Derived.Test.YtlfcgobmhbemoaaGreatDoorZqCelZ
import Derived.Test.YtlfcgobmhbemoaaGreatDoorZqEqStr
import Derived.Test.YtlfcgobmhbemoaaGreatDoorZqCelN
import Derived.Test.YtlfcgobmhbemoaaGreatDoorZqCelW
import Derived.Test.YtlfcgobmhbemoaaGreatDoorZqFlowB
set_option linter.unusedVariables false
set_option linter.unusedSimpArgs false
namespace Go.Proofs.YtlfcgobmhbemoaaGreatDoor
open Go Go.RowKit Go.Bl

set_option maxHeartbeats 2000000 in
set_option maxRecDepth 100000 in
theorem sameCells_any (c : Cel) (A : Option Addr) (n cc : Nat) (B : Option Addr) (dd : Nat) (w : World) (ha : Sl w 0 A c.rows) (hb : Sl w 0 B c.rows) (hn : c.rows.length = n) :
    Calls Tryz.prog 18 #[.agg #[.int .i64 (c).step, .int .i64 (c).x, .int .i64 (c).y, .slice A n cc], .agg #[.int .i64 (c).step, .int .i64 (c).x, .int .i64 (c).y, .slice B n dd]] w fun e w' => e = .returned (.bool true) ∧ w.grownBy w' none := by
  subst hn
  go_enter Tryz.func18, Tryz.ntmps18
  go_upto_region 1 with fail
  obtain ⟨w4, hw4⟩ : ∃ x, x = ((w).alloc (.cells [.int .i64 (c).step, .int .i64 (c).x, .int .i64 (c).y, .slice A c.rows.length cc].toArray 28)).alloc (.cells [.int .i64 (c).step, .int .i64 (c).x, .int .i64 (c).y, .slice B c.rows.length dd].toArray 28) := ⟨_, rfl⟩
  have hba4 : Box w4 (w).heap.size 28 [.int .i64 (c).step, .int .i64 (c).x, .int .i64 (c).y, .slice A c.rows.length cc] := by
    rw [hw4]; exact (Box.new (w) [.int .i64 (c).step, .int .i64 (c).x, .int .i64 (c).y, .slice A c.rows.length cc] 28).pure (gr_alloc (World.grownBy.refl _ _) _)
  have hbb4 : Box w4 ((w).heap.size + 1) 28 [.int .i64 (c).step, .int .i64 (c).x, .int .i64 (c).y, .slice B c.rows.length dd] := by
    have h := Box.new ((w).alloc (.cells [.int .i64 (c).step, .int .i64 (c).x, .int .i64 (c).y, .slice A c.rows.length cc].toArray 28)) [.int .i64 (c).step, .int .i64 (c).x, .int .i64 (c).y, .slice B c.rows.length dd] 28
    rw [show ((w).alloc (.cells [.int .i64 (c).step, .int .i64 (c).x, .int .i64 (c).y, .slice A c.rows.length cc].toArray 28)).heap.size = (w).heap.size + 1 by simp] at h
    rw [hw4]; exact h
  have hg4 : (w).grownBy w4 none := by rw [hw4]; exact (by repeat (first | exact World.grownBy.refl _ _ | assumption | refine gr_alloc ?_ _ | (apply gr_tail; assumption) | refine gr_drewN ?_ _ | refine gr_drew ?_))
  rw [← hw4]
  clear hw4
  obtain ⟨xb4, hxb4⟩ : ∃ x, x = (w).heap.size + 1 := ⟨_, rfl⟩
  rw [← hxb4] at hbb4 ⊢
  obtain ⟨xa4, hxa4⟩ : ∃ x, x = (w).heap.size := ⟨_, rfl⟩
  rw [← hxa4] at hba4 ⊢
  have hxn4 : xa4 ≠ xb4 := by omega
  replace hxa4 : (w).heap.size ≤ xa4 := by omega
  replace hxb4 : (w).heap.size ≤ xb4 := by omega
  obtain ⟨⟨a0, -⟩, ⟨a1, -⟩, ⟨a2, -⟩, ⟨a3, -⟩⟩ := box4_c hba4
  obtain ⟨⟨b0, -⟩, ⟨b1, -⟩, ⟨b2, -⟩, ⟨b3, -⟩⟩ := box4_c hbb4
  have hE := hide (equalStrs_any A B cc dd c.rows c.rows w4 (ha.pure hg4) (hb.pure hg4))
  go_wp2_with fail
  refine hE.out.mono ?_
  rintro e w5 ⟨rfl, hg5⟩
  have hq : eqT c.rows c.rows = true := by simp [eqT]
  rw [hq]
  clear hE
  go_wp2_with fail
  go_ret
  exact ⟨rfl, hg4.t hg5⟩

end Go.Proofs.YtlfcgobmhbemoaaGreatDoor

namespace Go.Bl
open Go

theorem or3 (a b : Cel) : orL [cellsF a, cellsF b, if a.step = b.step then 0 else 3] = pairF a b := by
  unfold pairF
  by_cases h1 : cellsF a = 0 <;> by_cases h2 : cellsF b = 0 <;> by_cases h3 : a.step = b.step <;> simp [orL, h1, h2, h3]

theorem ResC.small {F st : Int} {S : Int → Int → Bool} {c : Cel} {e : Int} (h : ResC F st S c e) : ∀ s ∈ c.rows, s.size ≤ 200 := by
  rcases h with ⟨-, rfl, -⟩ | ⟨-, h⟩
  · simp
  · exact h.small

end Go.Bl
namespace Go.Proofs.YtlfcgobmhbemoaaGreatDoor
open Go Go.RowKit Go.Bl

set_option maxHeartbeats 4000000 in
set_option maxRecDepth 100000 in
theorem combinedLaw_any (a b : Cel) (A : Option Addr) (n cc : Nat) (B : Option Addr) (m dd : Nat) (S : Int → Int → Bool) (f : Bool → Bool → Bool) (KF IK : Nat) (w : World) (ha : CArg w a A n) (hb : CArg w b B m)
    (henF : ∀ (xs : Array Value) wx, (callFunc KF xs).run Tryz.prog wx = .ok (.enter KF xs) wx)
    (hF : ∀ wx, w.grownBy wx none → Calls Tryz.prog KF #[.agg #[.int .i64 (a).step, .int .i64 (a).x, .int .i64 (a).y, .slice A n cc], .agg #[.int .i64 (b).step, .int .i64 (b).x, .int .i64 (b).y, .slice B m dd]] wx fun e w' => CelsOutF wx w' (pairF a b) a.step S e)
    (hen : ∀ (xs : Array Value) wx, (callFunc IK xs).run Tryz.prog wx = .ok (.enter IK xs) wx)
    (his : ∀ x y wx, Calls Tryz.prog IK #[.bool x, .bool y] wx fun e w' => e = .returned (.bool (f x y)) ∧ wx.grownBy w' none)
    (hS : ∀ x y, S x y = ((onC a x y || onC b x y) && f (onC a x y) (onC b x y))) :
    Calls Tryz.prog 9 #[.func (.func KF) #[] #[], .agg #[.int .i64 (a).step, .int .i64 (a).x, .int .i64 (a).y, .slice A n cc], .agg #[.int .i64 (b).step, .int .i64 (b).x, .int .i64 (b).y, .slice B m dd], .func (.func IK) #[] #[]] w fun e w' => e = .returned (.bool true) ∧ w.grownBy w' none := by
  have hC := hide (fun W (h : w.grownBy W none) (h0 : pairF a b = 0) => combined_any a b A n cc B m dd f IK #[] #[] W (ha.pure h) (hb.pure h) (pairF_ok h0).1 (pairF_ok h0).2.1 hen (fun x y wx => by simpa using his x y wx))
  have hCa := hide (fun W (h : w.grownBy W none) => cellsFault_any a A n cc W (ha.pure h))
  have hCb := hide (fun W (h : w.grownBy W none) => cellsFault_any b B m dd W (hb.pure h))
  have hSt := hide (fun W => stepsFault_any a b A n cc B m dd W)
  have ho3 := hide (or3 a b)
  replace henF := hide henF
  replace hF := hide hF
  replace hS := hide hS
  clear hen his ha hb
  go_enter Tryz.func9, Tryz.ntmps9
  go_upto_region 1 with fail
  obtain ⟨w0, hw0⟩ : ∃ x, x = ((w).alloc (.cells [.int .i64 (a).step, .int .i64 (a).x, .int .i64 (a).y, .slice A n cc].toArray 28)).alloc (.cells [.int .i64 (b).step, .int .i64 (b).x, .int .i64 (b).y, .slice B m dd].toArray 28) := ⟨_, rfl⟩
  have hba0 : Box w0 (w).heap.size 28 [.int .i64 (a).step, .int .i64 (a).x, .int .i64 (a).y, .slice A n cc] := by
    rw [hw0]; exact (Box.new (w) [.int .i64 (a).step, .int .i64 (a).x, .int .i64 (a).y, .slice A n cc] 28).pure (gr_alloc (World.grownBy.refl _ _) _)
  have hbb0 : Box w0 ((w).heap.size + 1) 28 [.int .i64 (b).step, .int .i64 (b).x, .int .i64 (b).y, .slice B m dd] := by
    have h := Box.new ((w).alloc (.cells [.int .i64 (a).step, .int .i64 (a).x, .int .i64 (a).y, .slice A n cc].toArray 28)) [.int .i64 (b).step, .int .i64 (b).x, .int .i64 (b).y, .slice B m dd] 28
    rw [show ((w).alloc (.cells [.int .i64 (a).step, .int .i64 (a).x, .int .i64 (a).y, .slice A n cc].toArray 28)).heap.size = (w).heap.size + 1 by simp] at h
    rw [hw0]; exact h
  have hg0 : (w).grownBy w0 none := by rw [hw0]; exact (by repeat (first | exact World.grownBy.refl _ _ | assumption | refine gr_alloc ?_ _ | (apply gr_tail; assumption) | refine gr_drewN ?_ _ | refine gr_drew ?_))
  rw [← hw0]
  clear hw0
  obtain ⟨xb0, hxb0⟩ : ∃ x, x = (w).heap.size + 1 := ⟨_, rfl⟩
  rw [← hxb0] at hbb0 ⊢
  obtain ⟨xa0, hxa0⟩ : ∃ x, x = (w).heap.size := ⟨_, rfl⟩
  rw [← hxa0] at hba0 ⊢
  have hxn0 : xa0 ≠ xb0 := by omega
  replace hxa0 : (w).heap.size ≤ xa0 := by omega
  replace hxb0 : (w).heap.size ≤ xb0 := by omega
  obtain ⟨⟨a0, -⟩, ⟨a1, -⟩, ⟨a2, -⟩, ⟨a3, -⟩⟩ := box4_c hba0
  obtain ⟨⟨b0, -⟩, ⟨b1, -⟩, ⟨b2, -⟩, ⟨b3, -⟩⟩ := box4_c hbb0
  go_wp2_with fail
  rw [henF.out, Oper.upon_enter]
  refine (hF.out _ hg0).mono ?_
  rintro e w1 ⟨c9, er9, A9, cc9, rfl, hR9, hO9, hg1⟩
  obtain ⟨n9, hn9⟩ : ∃ q, q = c9.rows.length := ⟨_, rfl⟩
  rw [← hn9]
  replace hn9 := hide hn9
  replace hR9 := hide hR9
  have hgw1 := hg0.t hg1
  have hba1 := hba0.pure hg1
  have hbb1 := hbb0.pure hg1
  clear a0 a1 a2 a3 b0 b1 b2 b3 henF hF hba0 hbb0 hg1
  go_upto_region 2 with fail
  obtain ⟨w9, hw9⟩ : ∃ x, x = (w1).alloc (.cells [.int .i64 (c9).step, .int .i64 (c9).x, .int .i64 (c9).y, .slice A9 n9 cc9].toArray 28) := ⟨_, rfl⟩
  have hg9 : (w1).grownBy w9 none := by rw [hw9]; exact gr_alloc (World.grownBy.refl _ _) _
  have hb9 : Box w9 (w1).heap.size 28 [.int .i64 (c9).step, .int .i64 (c9).x, .int .i64 (c9).y, .slice A9 n9 cc9] := by rw [hw9]; exact Box.new _ _ _
  have hxs9 := hb9.lt
  rw [← hw9]
  clear hw9
  obtain ⟨x9, hx9⟩ : ∃ x, x = (w1).heap.size := ⟨_, rfl⟩
  rw [← hx9] at hb9 hxs9 ⊢
  have hxl9 : (w1).heap.size ≤ x9 := by omega
  clear hx9
  have hO9' := (Own.lower hO9 hg0.size).pure hg9
  have hgw9 := hgw1.t hg9
  have hck : Hid (∀ wx, w9.grownBy wx none → Box wx xa0 28 [.int .i64 (a).step, .int .i64 (a).x, .int .i64 (a).y, .slice A n cc] ∧ Box wx xb0 28 [.int .i64 (b).step, .int .i64 (b).x, .int .i64 (b).y, .slice B m dd]) := fun wx h => ⟨(hba1.pure hg9).pure h, (hbb1.pure hg9).pure h⟩
  have hb9lt := hide hxs9
  have hxw9 : w.heap.size ≤ x9 := by have := hgw1.size; omega
  clear hba1 hbb1 hgw1 hO9
  refine wp_region_tree (fun wx => w9.grownBy wx none) [1, 0, 1, 0, 1, 1, 0, 0, 0, 2] (.bl 0 (.bl 2 (.bl 4 (.bl 5 (.ef 1 (.ef 3 (.ef 6 (.ef 7 (.ef 8 (.bl 9 .done)))))))))) (by kernel_rfl) (by kernel_rfl) (gr_drew (World.grownBy.refl _ _)) ?_
  obtain ⟨u0, hu0⟩ : ∃ x, x = (w9).drew := ⟨_, rfl⟩
  rw [← hu0]
  have hgu0 : (w9).grownBy u0 none := by rw [hu0]; exact gr_drew (World.grownBy.refl _ _)
  clear hu0
  have hcur := hgu0
  refine tree_b rfl rfl rfl rfl _ rfl (by simp) (fun K hK => ?_)
  apply Exists.intro
  refine ⟨fun wq hq K' hK' => ?_, ?_⟩
  · obtain ⟨ka, kb⟩ := hck.out wq hq
    obtain ⟨⟨a0, -⟩, ⟨a1, -⟩, ⟨a2, -⟩, ⟨a3, -⟩⟩ := box4_c ka
    obtain ⟨⟨b0, -⟩, ⟨b1, -⟩, ⟨b2, -⟩, ⟨b3, -⟩⟩ := box4_c kb
    go_wp2_with fail
    exact hK'
  go_simp
  refine hK _ ?_
  clear hK K
  refine tree_b rfl rfl rfl rfl _ rfl (by simp) (fun K hK => ?_)
  apply Exists.intro
  refine ⟨fun wq hq K' hK' => ?_, ?_⟩
  · obtain ⟨ka, kb⟩ := hck.out wq hq
    obtain ⟨⟨a0, -⟩, ⟨a1, -⟩, ⟨a2, -⟩, ⟨a3, -⟩⟩ := box4_c ka
    obtain ⟨⟨b0, -⟩, ⟨b1, -⟩, ⟨b2, -⟩, ⟨b3, -⟩⟩ := box4_c kb
    go_wp2_with fail
    exact hK'
  go_simp
  refine hK _ ?_
  clear hK K
  refine tree_b rfl rfl rfl rfl _ rfl (by simp) (fun K hK => ?_)
  apply Exists.intro
  refine ⟨fun wq hq K' hK' => ?_, ?_⟩
  · obtain ⟨ka, kb⟩ := hck.out wq hq
    obtain ⟨⟨a0, -⟩, ⟨a1, -⟩, ⟨a2, -⟩, ⟨a3, -⟩⟩ := box4_c ka
    obtain ⟨⟨b0, -⟩, ⟨b1, -⟩, ⟨b2, -⟩, ⟨b3, -⟩⟩ := box4_c kb
    go_wp2_with fail
    exact hK'
  go_simp
  refine hK _ ?_
  clear hK K
  refine tree_b rfl rfl rfl rfl _ rfl (by simp) (fun K hK => ?_)
  apply Exists.intro
  refine ⟨fun wq hq K' hK' => ?_, ?_⟩
  · obtain ⟨ka, kb⟩ := hck.out wq hq
    obtain ⟨⟨a0, -⟩, ⟨a1, -⟩, ⟨a2, -⟩, ⟨a3, -⟩⟩ := box4_c ka
    obtain ⟨⟨b0, -⟩, ⟨b1, -⟩, ⟨b2, -⟩, ⟨b3, -⟩⟩ := box4_c kb
    go_wp2_with fail
    exact hK'
  go_simp
  refine hK _ ?_
  clear hK K
  refine tree_e rfl rfl (fun K hK => ?_)
  go_wp2_with fail
  refine (hCa.out u0 (hgw9.t hcur)).mono ?_
  rintro e u1 ⟨rfl, hg1⟩
  go_wp2_with fail
  try go_simp
  refine hK _ _ (hcur.t hg1) ?_
  clear hK K
  replace hcur := hcur.t hg1
  clear hg1
  refine tree_e rfl rfl (fun K hK => ?_)
  go_wp2_with fail
  refine (hCb.out u1 (hgw9.t hcur)).mono ?_
  rintro e u3 ⟨rfl, hg3⟩
  go_wp2_with fail
  try go_simp
  refine hK _ _ (hcur.t hg3) ?_
  clear hK K
  replace hcur := hcur.t hg3
  clear hg3
  refine tree_e0 (by kernel_rfl) rfl rfl (fun K hK => ?_)
  go_wp2_with fail
  refine (hSt.out u3).mono ?_
  rintro e u6 ⟨rfl, hg6⟩
  obtain ⟨FS, hFS⟩ : ∃ q, q = (if a.step = b.step then 0 else 3 : Int) := ⟨_, rfl⟩
  rw [← hFS] at ho3 ⊢
  replace hFS := hide hFS
  go_wp2_with fail
  try go_simp
  refine hK _ _ trivial ?_
  clear hK K
  replace hcur := hcur.t hg6
  clear hg6
  refine tree_e0 (by kernel_rfl) rfl rfl (fun K hK => ?_)
  go_wp2_with fail
  try go_simp
  refine hK _ _ trivial ?_
  clear hK K
  obtain ⟨u7, hu7⟩ : ∃ x, x = (u6).alloc (.cells #[.int .i64 (cellsF a), .int .i64 (cellsF b), .int .i64 FS] 37) := ⟨_, rfl⟩
  have hSl : Sl u7 0 (some ⟨(u6).heap.size, 0, none⟩) [cellsF a, cellsF b, FS] := by
    rw [hu7]; exact sl_intsAt _ _ _ [cellsF a, cellsF b, FS] _ rfl (Nat.zero_le _) (by simp [maxLen])
  replace hcur := hcur.t (show (u6).grownBy u7 none by rw [hu7]; exact gr_alloc (World.grownBy.refl _ _) _)
  rw [← hu7]
  clear hu7
  generalize (u6).heap.size = x7 at *
  refine tree_e0 (by kernel_rfl) rfl rfl (fun K hK => ?_)
  go_wp2_with fail
  refine (or_any _ _ _ [cellsF a, cellsF b, FS] _ hSl rfl).mono ?_
  rintro e u8 ⟨rfl, rfl⟩
  rw [ho3.out]
  obtain ⟨PF, hPF⟩ : ∃ q, q = pairF a b := ⟨_, rfl⟩
  rw [← hPF] at hR9 ⊢
  replace hPF := hide hPF
  go_wp2_with fail
  try go_simp
  refine hK _ _ trivial ?_
  clear hK K
  refine tree_p rfl rfl rfl rfl _ rfl (by simp) (fun K hK => ?_)
  apply Exists.intro
  refine ⟨fun wq K' hK' => ?_, ?_⟩
  · go_wp2_with fail
    exact hK'
  go_simp
  refine hK _ ?_
  clear hK K
  refine tree_done ?_
  clear hSl ho3
  go_upto_region 4 with fail
  obtain ⟨w12, hw12⟩ : ∃ x, x = (u7).alloc (.cells [.int .i64 0, .int .i64 0, .int .i64 0, .slice none 0 0].toArray 28) := ⟨_, rfl⟩
  have hg12 : (u7).grownBy w12 none := by rw [hw12]; exact gr_alloc (World.grownBy.refl _ _) _
  have hb12 : Box w12 (u7).heap.size 28 [.int .i64 0, .int .i64 0, .int .i64 0, .slice none 0 0] := by rw [hw12]; exact Box.new _ _ _
  have hxs12 := hb12.lt
  rw [← hw12]
  clear hw12
  obtain ⟨x12, hx12⟩ : ∃ x, x = (u7).heap.size := ⟨_, rfl⟩
  rw [← hx12] at hb12 hxs12 ⊢
  have hxl12 : (u7).heap.size ≤ x12 := by omega
  clear hx12
  have hb9x := (hb9.pure hcur).pure hg12
  have hO9x := (hO9'.pure hcur).pure hg12
  have hsz7 := hcur.size
  have hsz9 := hgw9.size
  replace hcur := hcur.t hg12
  have hgwx := hgw9.t hcur
  have hne : x9 ≠ x12 := by omega
  have hx12w : w.heap.size ≤ x12 := by omega
  by_cases h0 : PF = 0
  · subst h0
    obtain ⟨ka, kb⟩ := hck.out w12 hcur
    obtain ⟨⟨a0, -⟩, ⟨a1, -⟩, ⟨a2, -⟩, ⟨a3, -⟩⟩ := box4_c ka
    obtain ⟨⟨b0, -⟩, ⟨b1, -⟩, ⟨b2, -⟩, ⟨b3, -⟩⟩ := box4_c kb
    have hCc := hide (hC.out w12 hgwx hPF.out.symm)
    clear ka kb
    go_wp2_with fail
    refine hCc.out.mono ?_
    rintro e w5 ⟨d, er, D, d5, rfl, hI, hO5, hg5⟩
    obtain ⟨rfl, rfl⟩ := hR9.out.uniq (.inr ⟨rfl, hI.congr (T := S) (fun x y => (hS.out x y).symm)⟩)
    rw [← hn9.out]
    have hb12x := hb12.pure hg5
    have hb9y := hb9x.pure hg5
    have hO9y := hO9x.pure hg5
    have hgwy := hgwx.t hg5
    have hO5' := Own.lower hO5 hgwx.size
    obtain ⟨⟨d0, f0⟩, ⟨d1, f1⟩, ⟨d2, f2⟩, ⟨d3, f3⟩⟩ := box4_c hb12x
    clear hCc a0 a1 a2 a3 b0 b1 b2 b3 hI hb12 hb9x hO9x hO5 hg5 hR9
    go_upto_region 6 with fail
    clear d0 d1 d2 d3 f0 f1 f2 f3
    have hgs := set4_gr (w := w5) (g := x12) (.int .i64 c9.step) (.int .i64 c9.x) (.int .i64 c9.y) (.slice D n9 d5)
    have hbf := box_set4 hb12x (.int .i64 c9.step) (.int .i64 c9.x) (.int .i64 c9.y) (.slice D n9 d5)
    have hb9f := hb9y.gr hgs (by intro e; injection e with e; exact hne e.symm)
    have hO9f := hO9y.ne hgs (fun x h e => hb12x.ne_own hO9y (by decide) (by injection e with e; rw [e]; exact h))
    have hO5f := hO5'.ne hgs (fun x h e => hb12x.ne_own hO5' (by decide) (by injection e with e; rw [e]; exact h))
    have hgf := gr_new hgwy hgs (by omega)
    generalize (((w5.setCell ⟨x12, 0, none⟩ (.int .i64 c9.step)).setCell ⟨x12, 1, none⟩ (.int .i64 c9.x)).setCell ⟨x12, 2, none⟩ (.int .i64 c9.y)).setCell ⟨x12, 3, none⟩ (.slice D n9 d5) = wf at *
    obtain ⟨⟨d0, -⟩, ⟨d1, -⟩, ⟨d2, -⟩, ⟨d3, -⟩⟩ := box4_c hbf
    obtain ⟨⟨k0, -⟩, ⟨k1, -⟩, ⟨k2, -⟩, ⟨k3, -⟩⟩ := box4_c hb9f
    have hSm := hide (sameCells_any c9 A9 n9 cc9 D d5 wf ((hO9f.sl).mono (Nat.zero_le _)) ((hO5f.sl).mono (Nat.zero_le _)) hn9.out.symm)
    have hee : (er9 == er9) = true := by simp
    go_wp2_with fail
    refine hSm.out.mono ?_
    rintro e wz ⟨rfl, hgz⟩
    go_wp2_with fail
    go_ret
    exact ⟨rfl, hgf.t hgz⟩
  · have hR9' := hR9.out
    obtain ⟨rfl, rfl⟩ : c9 = ⟨0, 0, 0, []⟩ ∧ er9 = PF := by
      rcases hR9' with ⟨-, h1, h2⟩ | ⟨h1, -⟩
      · exact ⟨h1, h2⟩
      · exact absurd h1 h0
    obtain rfl : n9 = 0 := hn9.out
    obtain ⟨⟨d0, -⟩, ⟨d1, -⟩, ⟨d2, -⟩, ⟨d3, -⟩⟩ := box4_c hb12
    obtain ⟨⟨k0, -⟩, ⟨k1, -⟩, ⟨k2, -⟩, ⟨k3, -⟩⟩ := box4_c hb9x
    have hSm := hide (sameCells_any ⟨0, 0, 0, []⟩ A9 0 cc9 none 0 w12 Sl.nil Sl.nil rfl)
    have hee : (er9 == er9) = true := by simp
    have h00 : (er9 == 0) = false := by simp [h0]
    clear hR9 hR9' hC hPF
    go_wp2_with fail
    refine hSm.out.mono ?_
    rintro e wz ⟨rfl, hgz⟩
    go_wp2_with fail
    go_ret
    exact ⟨rfl, hgwx.t hgz⟩

end Go.Proofs.YtlfcgobmhbemoaaGreatDoor

/- Contracts of functions that this seat's laws reach, each: what one call returns and what it leaves in memory; no condition beyond each theorem's own hypotheses. -/
import Derived.Test.YthciblcokogkkaaGreatDoorZqFlrE
import Derived.Test.YthciblcokogkkaaGreatDoorZqFlrF
import Derived.Test.YthciblcokogkkaaGreatDoorZqFarmN
set_option linter.unusedVariables false
set_option linter.unusedSimpArgs false
namespace Go.Proofs.YthciblcokogkkaaGreatDoor
open Go Go.RowKit Go.Bl Go.Maps Go.WideShapes

theorem KeepM.of {lo : Nat} {w w' : World} (h : w.grownBy w' none) : KeepM lo w w' := fun x _ hx => h.block x (by
  rcases hx with ⟨es, ck, h1⟩ | ⟨vs, h1⟩
  · exact (Array.getElem?_eq_some_iff.1 h1).1
  · exact h1.lt) (by simp)

theorem run_enterF {P : Program} {f : FuncId} {fn : Func} {c : Code} (hf : P.funcs[f]? = some fn) (hname : (fn.name == "runtime.NumGoroutine") = false) (hb : fn.body = some c) (args : Array Value) (w : World) :
    (callFunc f args).run P w = .ok (.enter f args) w := by
  have h1 : fn.name ≠ "runtime.NumGoroutine" := by simpa using hname
  simp [callFunc, hf, h1, hb]

set_option maxHeartbeats 800000 in
theorem noClo_any (i v : Int) (S : Std) (w : World) :
    Calls Tryz.prog 97 #[.int .i64 i, .agg #[.int .i64 S.st, .int .i64 S.since, .string S.mat, .string S.job], .int .i64 v] w fun e w' => e = .returned (.tuple #[]) ∧ w.grownBy w' none := by
  go_enter Tryz.func97, Tryz.ntmps97
  go_wp2_with fail
  go_end0
  exact ⟨rfl, gr_alloc (World.grownBy.refl _ _) _⟩

set_option maxHeartbeats 1000000 in
theorem floorAt_any (P A : Option Addr) (pc c : Nat) (p : List Prn) (l : List Ev) (at_ : Int) (w : World)
    (hpl : Sl w 0 P p) (hpk : ∀ x ∈ p, okK x.key) (h50 : p.length ≤ 50) (hl5 : l.length ≤ 5000) (hev : ∀ e ∈ l, EvOk e) (hl : Sl w 0 A l) :
    Calls Tryz.prog 48 #[.slice P p.length pc, .slice A l.length c, .int .i64 at_] w fun e w' => ∃ f b1 b2 b3 b4, e = .returned (.pointer (some ⟨f, 0, none⟩)) ∧ FlrAt w' f b1 b2 b3 b4 20000 (runS (newF p) (l.take (limN l at_))) ∧ w.grownBy w' none ∧ ∀ x, x = f ∨ isF b1 b2 b3 b4 x → w.heap.size ≤ x := by
  have hen : ∀ (xs : Array Value) wx, (callFunc 97 xs).run Tryz.prog wx = .ok (.enter 97 xs) wx := fun xs wx => run_enterF Tryz.func97 (by kernel_rfl) rfl xs wx
  have hF := hide (follow_any P A pc c p l at_ 97 #[] #[] (fun _ wx => w.grownBy wx none) w hpl hpk h50 hl5 hev (fun k wx h => hl.pure h)
    (fun k wx wy q h1 h2 h3 => h2.new h1 fun x hx => (h3 x hx).1)
    (fun k hk wx _ h1 => (noClo_any _ _ _ wx).mono fun e w' ⟨h2, h3⟩ => ⟨h2, h1.t h3, KeepM.of h3⟩) hen (World.grownBy.refl _ _))
  clear hpl hpk hl hev hen
  go_enter Tryz.func48, Tryz.ntmps48
  go_wp2_with fail
  refine hF.out.mono ?_
  rintro e w1 ⟨f, b1, b2, b3, b4, rfl, hF1, hg, hlo⟩
  replace hlo := hide hlo
  go_wp2_with fail
  go_ret
  exact ⟨f, b1, b2, b3, b4, rfl, hF1, hg, hlo.out⟩

set_option maxHeartbeats 2000000 in
theorem at_any (P A : Option Addr) (pc c : Nat) (p : List Prn) (l : List Ev) (key : ByteArray) (at_ : Int) (w : World)
    (hpl : Sl w 0 P p) (hp0 : prnsF p = 0) (hpk : ∀ x ∈ p, okK x.key) (h50 : p.length ≤ 50) (hl5 : l.length ≤ 5000) (hev : ∀ e ∈ l, EvOk e) (hl : Sl w 0 A l) (hck : chkF p l = 0)
    (hkey : hasP' p key = true) (hok : okK key) (hat : momO at_ = false) (S : Std) (hS : (runS (newF p) (l.take (limN l at_))).s key = S) :
    Calls Tryz.prog 9 #[.slice P p.length pc, .slice A l.length c, .string key, .int .i64 at_] w fun e w' => e = .returned (.tuple #[.agg #[.int .i64 S.st, .int .i64 S.since, .string S.mat, .string S.job], .int .i64 0]) ∧ w.grownBy w' none := by
  have hC := hide fun wx (h : w.grownBy wx none) => checkEvents_any P A pc c p l wx (hpl.pure h) (hl.pure h)
  rw [hck] at hC
  have hP := hide fun wx (h : w.grownBy wx none) => printerAt_any P pc p key wx (hpl.pure h) hp0
  rw [hkey] at hP
  have hF := hide fun wx (h : w.grownBy wx none) => floorAt_any P A pc c p l at_ wx (hpl.pure h) hpk h50 hl5 hev (hl.pure h)
  have hM := hide fun wx => isMoment_any at_ wx
  rw [hat] at hM
  replace hS := hide hS
  clear hpl hpk hl hev hp0 hck hkey hat
  go_enter Tryz.func9, Tryz.ntmps9
  go_upto_region 1 with fail
  obtain ⟨w8, hw8⟩ : ∃ x, x = (w).alloc (.cells [.int .i64 0, .int .i64 0, .string ⟨#[]⟩, .string ⟨#[]⟩].toArray 39) := ⟨_, rfl⟩
  have hg8 : (w).grownBy w8 none := by rw [hw8]; exact gr_alloc (World.grownBy.refl _ _) _
  have hb8 : Box w8 (w).heap.size 39 [.int .i64 0, .int .i64 0, .string ⟨#[]⟩, .string ⟨#[]⟩] := by rw [hw8]; exact Box.new _ _ _
  have hxs8 := hb8.lt
  rw [← hw8]
  clear hw8
  obtain ⟨x8, hx8⟩ : ∃ x, x = (w).heap.size := ⟨_, rfl⟩
  rw [← hx8] at hb8 hxs8 ⊢
  have hxl8 : (w).heap.size ≤ x8 := by omega
  clear hx8
  go_wp2_with fail
  refine (hC.out _ hg8).mono ?_
  rintro e w1 ⟨rfl, hg1⟩
  have hb1 := hb8.pure hg1
  replace hg1 := hg8.t hg1
  go_wp2_with fail
  refine (hP.out _ hg1).mono ?_
  rintro e w2 ⟨r, rfl, hg2⟩
  have hb2 := hb1.pure hg2
  replace hg2 := hg1.t hg2
  go_wp2_with fail
  refine (hM.out _).mono ?_
  rintro e wq ⟨rfl, rfl⟩
  go_wp2_with fail
  refine (hF.out _ hg2).mono ?_
  rintro e w3 ⟨f, b1, b2, b3, b4, rfl, hF3, hg3, hlo⟩
  have hb3 := hb2.pure hg3
  replace hg3 := hg2.t hg3
  obtain ⟨f0, -⟩ := hF3.bx.c 0 rfl
  have hlk : (Instr.lookup 88 (.map (some b1)) (.string key) false).run Tryz.prog w3 = .ok (.agg #[.int .i64 S.st, .int .i64 S.since, .string S.mat, .string S.job]) w3 := by rw [← hS.out]; exact look_T hF3.m1 hok
  obtain ⟨⟨d0, e0⟩, ⟨d1, e1⟩, ⟨d2, e2⟩, ⟨d3, e3⟩⟩ := box4_c hb3
  replace hlo := hide hlo
  have hgz := gr_new hg3 (set4_gr (w := w3) (g := x8) (.int .i64 S.st) (.int .i64 S.since) (.string S.mat) (.string S.job)) hxl8
  have hbz := box_set4 hb3 (.int .i64 S.st) (.int .i64 S.since) (.string S.mat) (.string S.job)
  clear hb8 hb1 hb2 hF3 hg1 hg2
  go_wp2_with fail
  generalize (((w3.setCell ⟨x8, 0, none⟩ (.int .i64 S.st)).setCell ⟨x8, 1, none⟩ (.int .i64 S.since)).setCell ⟨x8, 2, none⟩ (.string S.mat)).setCell ⟨x8, 3, none⟩ (.string S.job) = wz at hbz hgz ⊢
  obtain ⟨⟨k0, j0⟩, ⟨k1, j1⟩, ⟨k2, j2⟩, ⟨k3, j3⟩⟩ := box4_c hbz
  refine bodyPost_ret (v := .tuple #[.agg #[.int .i64 S.st, .int .i64 S.since, .string S.mat, .string S.job], .int .i64 0]) (by simp [results, Tryz.results9, go_sem, k0, k1, k2, k3, j0, j1, j2, j3]) rfl ⟨rfl, hgz⟩

end Go.Proofs.YthciblcokogkkaaGreatDoor

namespace Go.Proofs.YthciblcokogkkaaGreatDoor
open Go Go.RowKit Go.Bl Go.Maps Go.WideShapes

/-- what a busy printer adds -/
def addO (pr : ByteArray) (S : Std) (tt a b : Int) (z : ByteArray) : Int := if z = pr ∧ S.st = 2 then ovl S.since tt a b else 0
/-- .. where the event is not refused -/
def addC (E : Int) (pr : ByteArray) (S : Std) (tt a b : Int) (z : ByteArray) : Int := if E = 0 then addO pr S tt a b z else 0

set_option maxHeartbeats 4000000 in
set_option maxRecDepth 100000 in
theorem busy1_any (x9 x5 ml n : Nat) (m : ByteArray → Option Int) (a b : Int) (pr : ByteArray) (S : Std) (tt : Int) (w : World)
    (h9 : Box w x9 83 [.map (some ml)]) (h5 : Box w x5 35 [.int .i64 a, .int .i64 b]) (hm : MapOf strI w ml n m) (hn : n ≤ 20000) (hp : okK pr)
    (hab : 0 ≤ a ∧ a ≤ b ∧ b ≤ 345686400000) (hto : 0 ≤ tt ∧ tt ≤ 345686400000) (hsi : 0 ≤ S.since ∧ S.since ≤ 345686400000) (hv : 0 ≤ (m pr).getD 0 ∧ (m pr).getD 0 ≤ 4000000000000000) :
    Calls Tryz.prog 43 #[.string pr, .agg #[.int .i64 (S).st, .int .i64 (S).since, .string (S).mat, .string (S).job], .int .i64 tt, .pointer (some ⟨x9, 0, none⟩), .pointer (some ⟨x5, 0, none⟩)] w fun e w' => e = .returned (.tuple #[]) ∧
      (∃ m', MapOf strI w' ml (n + 1) m' ∧ ∀ z, (m' z).getD 0 = (m z).getD 0 + addO pr S tt a b z) ∧ GrS (fun x => x = ml) w w' := by
  by_cases hst : S.st = 2
  · have hb : (S.st == 2) = true := by simp [hst]
    have hA : Hid (∀ z, addO pr S tt a b z = if z = pr then ovl S.since tt a b else 0) := fun z => by
      unfold addO
      by_cases hz : z = pr
      · rw [if_pos ⟨hz, hst⟩, if_pos hz]
      · rw [if_neg (fun h => hz h.1), if_neg hz]
    clear hst
    obtain ⟨v, hvv⟩ : ∃ v, v = (m pr).getD 0 := ⟨_, rfl⟩
    rw [← hvv] at hv
    replace hvv := hide hvv
    go_enter Tryz.func43, Tryz.ntmps43
    go_upto_region 1 with fail
    obtain ⟨w6, hw6⟩ : ∃ x, x = (w).alloc (.cells [.int .i64 S.st, .int .i64 S.since, .string S.mat, .string S.job].toArray 39) := ⟨_, rfl⟩
    have hg6 : (w).grownBy w6 none := by rw [hw6]; exact gr_alloc (World.grownBy.refl _ _) _
    have hb6 : Box w6 (w).heap.size 39 [.int .i64 S.st, .int .i64 S.since, .string S.mat, .string S.job] := by rw [hw6]; exact Box.new _ _ _
    have hxs6 := hb6.lt
    rw [← hw6]
    clear hw6
    obtain ⟨x6, hx6⟩ : ∃ x, x = (w).heap.size := ⟨_, rfl⟩
    rw [← hx6] at hb6 hxs6 ⊢
    have hxl6 : (w).heap.size ≤ x6 := by omega
    clear hx6
    obtain ⟨⟨d0, -⟩, ⟨d1, -⟩, -, -⟩ := box4_c hb6
    have hm6 := hm.kept hg6 (by simp)
    obtain ⟨q0, -⟩ := (h9.pure hg6).c 0 rfl
    obtain ⟨r0, -⟩ := (h5.pure hg6).c 0 rfl
    obtain ⟨r1, -⟩ := (h5.pure hg6).c 1 rfl
    have hlk : (Instr.lookup 83 (.map (some ml)) (.string pr) false).run Tryz.prog w6 = .ok (.int .i64 v) w6 := by rw [hvv.out]; exact look_I hm6 hp
    obtain ⟨w7, hrun, hm7, hg7⟩ := store_I hm6 (by unfold maxLen; omega) hp (v + max 0 (min tt b - max S.since a))
    clear h9 h5 hm
    replace hm7 := hide hm7
    go_wp2_with fail
    go_end0
    refine ⟨rfl, ⟨_, hm7.out, fun z => ?_⟩, ((GrS.refl _ w).pure hg6).step hg7 (fun x e => .inl (by cases e; rfl))⟩
    rw [hA.out]
    unfold updM
    by_cases hz : z = pr
    · rw [if_pos hz, if_pos hz, hz, ← hvv.out]
      rfl
    · rw [if_neg hz, if_neg hz, Int.add_zero]
  · have hb : (S.st == 2) = false := by simp [hst]
    have hA : Hid (∀ z, addO pr S tt a b z = 0) := fun z => by
      unfold addO
      rw [if_neg (fun h => hst h.2)]
    clear hst
    go_enter Tryz.func43, Tryz.ntmps43
    go_upto_region 1 with fail
    obtain ⟨w6, hw6⟩ : ∃ x, x = (w).alloc (.cells [.int .i64 S.st, .int .i64 S.since, .string S.mat, .string S.job].toArray 39) := ⟨_, rfl⟩
    have hg6 : (w).grownBy w6 none := by rw [hw6]; exact gr_alloc (World.grownBy.refl _ _) _
    have hb6 : Box w6 (w).heap.size 39 [.int .i64 S.st, .int .i64 S.since, .string S.mat, .string S.job] := by rw [hw6]; exact Box.new _ _ _
    have hxs6 := hb6.lt
    rw [← hw6]
    clear hw6
    obtain ⟨x6, hx6⟩ : ∃ x, x = (w).heap.size := ⟨_, rfl⟩
    rw [← hx6] at hb6 hxs6 ⊢
    have hxl6 : (w).heap.size ≤ x6 := by omega
    clear hx6
    obtain ⟨⟨d0, -⟩, ⟨d1, -⟩, -, -⟩ := box4_c hb6
    have hm6 := hm.kept hg6 (by simp)
    clear hm
    go_wp2_with fail
    go_end0
    exact ⟨rfl, ⟨m, hm6.mono (Nat.le_succ _), fun z => by rw [hA.out, Int.add_zero]⟩, (GrS.refl _ w).pure hg6⟩

/-- what the closures of Busy hold -/
structure BusC (w : World) (x4 x5 x9 x10 ml : Nat) (a b : Int) (A : Option Addr) (n c : Nat) : Prop where
  b4 : Box w x4 27 [.slice A n c]
  b5 : Box w x5 35 [.int .i64 a, .int .i64 b]
  b9 : Box w x9 83 [.map (some ml)]
  b10 : Box w x10 84 [.func (.func 43) #[] #[.pointer (some ⟨x9, 0, none⟩), .pointer (some ⟨x5, 0, none⟩)]]

theorem BusC.grs {w w' : World} {x4 x5 x9 x10 ml : Nat} {a b : Int} {A : Option Addr} {n c : Nat} (h : BusC w x4 x5 x9 x10 ml a b A n c) {q : Nat → Prop} (hg : GrS q w w') (hq : ∀ x, q x → ∃ es ck, w.heap[x]? = some (.map es ck)) : BusC w' x4 x5 x9 x10 ml a b A n c :=
  ⟨hg.box h.b4 fun hx => map_noBox (hq _ hx) h.b4, hg.box h.b5 fun hx => map_noBox (hq _ hx) h.b5, hg.box h.b9 fun hx => map_noBox (hq _ hx) h.b9, hg.box h.b10 fun hx => map_noBox (hq _ hx) h.b10⟩

theorem BusC.pure {w w' : World} {x4 x5 x9 x10 ml : Nat} {a b : Int} {A : Option Addr} {n c : Nat} (h : BusC w x4 x5 x9 x10 ml a b A n c) (hg : w.grownBy w' none) : BusC w' x4 x5 x9 x10 ml a b A n c :=
  ⟨h.b4.pure hg, h.b5.pure hg, h.b9.pure hg, h.b10.pure hg⟩

set_option maxHeartbeats 4000000 in
set_option maxRecDepth 100000 in
theorem busy2_any (x4 x5 x9 x10 ml n : Nat) (m : ByteArray → Option Int) (a b : Int) (A : Option Addr) (c : Nat) (l : List Ev) (k : Nat) (hk : k < l.length) (S : Std) (E : Int) (w : World)
    (hB : BusC w x4 x5 x9 x10 ml a b A l.length c) (hl : Sl w 0 A l) (hm : MapOf strI w ml n m) (hn : n ≤ 20000) (hp : okK l[k].pr)
    (hab : 0 ≤ a ∧ a ≤ b ∧ b ≤ 345686400000) (hto : 0 ≤ l[k].at_ ∧ l[k].at_ ≤ 345686400000) (hsi : 0 ≤ S.since ∧ S.since ≤ 345686400000) (hv : 0 ≤ (m l[k].pr).getD 0 ∧ (m l[k].pr).getD 0 ≤ 4000000000000000) :
    Calls Tryz.prog 45 #[.int .i64 k, .agg #[.int .i64 (S).st, .int .i64 (S).since, .string (S).mat, .string (S).job], .int .i64 E, .pointer (some ⟨x10, 0, none⟩), .pointer (some ⟨x4, 0, none⟩)] w fun e w' => e = .returned (.tuple #[]) ∧
      (∃ m', MapOf strI w' ml (n + 1) m' ∧ ∀ z, (m' z).getD 0 = (m z).getD 0 + addC E l[k].pr S l[k].at_ a b z) ∧ GrS (fun x => x = ml) w w' := by
  by_cases hE : E = 0
  · subst hE
    have hAC : ∀ z, addC 0 l[k].pr S l[k].at_ a b z = addO l[k].pr S l[k].at_ a b z := fun z => if_pos rfl
    simp only [hAC]
    clear hAC
    have hm4 := hl.1
    unfold maxLen at hm4
    obtain ⟨g, o, cx, rfl, hb0, hb1, rfl, hc⟩ := hl.at_ (by decide) hk
    have c0 : w.cell? ⟨g, o + k * 5, none⟩ = some (.int .i64 l[k].at_) := hc 0 _ rfl
    have c2 : w.cell? ⟨g, o + k * 5 + 2, none⟩ = some (.string l[k].pr) := hc 2 _ rfl
    clear hc hl
    generalize l[k] = d at *
    have hcc := hide fun wx (h : w.grownBy wx none) => busy1_any x9 x5 ml n m a b d.pr S d.at_ wx (hB.b9.pure h) (hB.b5.pure h) (hm.kept h (by simp)) hn hp hab hto hsi hv
    clear hm hp hab hto hsi hv
    go_enter Tryz.func45, Tryz.ntmps45
    go_upto_region 2 with fail
    obtain ⟨w6, hw6⟩ : ∃ x, x = (w).alloc (.cells [.int .i64 S.st, .int .i64 S.since, .string S.mat, .string S.job].toArray 39) := ⟨_, rfl⟩
    have hg6 : (w).grownBy w6 none := by rw [hw6]; exact gr_alloc (World.grownBy.refl _ _) _
    have hb6 : Box w6 (w).heap.size 39 [.int .i64 S.st, .int .i64 S.since, .string S.mat, .string S.job] := by rw [hw6]; exact Box.new _ _ _
    have hxs6 := hb6.lt
    rw [← hw6]
    clear hw6
    obtain ⟨x6, hx6⟩ : ∃ x, x = (w).heap.size := ⟨_, rfl⟩
    rw [← hx6] at hb6 hxs6 ⊢
    have hxl6 : (w).heap.size ≤ x6 := by omega
    clear hx6
    have e0 := hg6.k c0
    have e2 := hg6.k c2
    have hY := hide fun wx (h : w6.grownBy wx none) => And.intro (hB.pure (hg6.t h)) (And.intro (hb6.pure h) (And.intro (h.k e0) (h.k e2)))
    clear c0 c2 e0 e2 hb6 hB
    refine wp_region_tree (fun wx => w6.grownBy wx none) [1, 1, 2, 2, 2, 1, 1, 1, 2, 2, 2, 1, 0] (.bl 0 (.bl 1 (.bl 2 (.bl 3 (.bl 4 (.bl 5 (.bl 6 (.bl 7 (.bl 8 (.bl 9 (.bl 10 (.bl 11 (.ef 12 .done))))))))))))) (by kernel_rfl) (by kernel_rfl) (gr_drew (World.grownBy.refl _ _)) ?_
    obtain ⟨w7, hw7⟩ : ∃ x, x = (w6).drew := ⟨_, rfl⟩
    rw [← hw7]
    have hgw7 : (w6).grownBy w7 none := by rw [hw7]; exact gr_drew (World.grownBy.refl _ _)
    clear hw7
    refine tree_b rfl rfl rfl rfl _ rfl (by simp) (fun K hK => ?_)
    apply Exists.intro
    refine ⟨fun wq hq K' hK' => ?_, ?_⟩
    · obtain ⟨hBq, hbq, e0, e2⟩ := hY.out wq hq
      obtain ⟨q4, -⟩ := hBq.b4.c 0 rfl
      obtain ⟨q10, -⟩ := hBq.b10.c 0 rfl
      obtain ⟨⟨d0, -⟩, ⟨d1, -⟩, ⟨d2, -⟩, ⟨d3, -⟩⟩ := box4_c hbq
      go_wp2_with fail
      exact hK'
    go_simp
    refine hK _ ?_
    clear hK K
    refine tree_b rfl rfl rfl rfl _ rfl (by simp) (fun K hK => ?_)
    apply Exists.intro
    refine ⟨fun wq hq K' hK' => ?_, ?_⟩
    · obtain ⟨hBq, hbq, e0, e2⟩ := hY.out wq hq
      obtain ⟨q4, -⟩ := hBq.b4.c 0 rfl
      obtain ⟨q10, -⟩ := hBq.b10.c 0 rfl
      obtain ⟨⟨d0, -⟩, ⟨d1, -⟩, ⟨d2, -⟩, ⟨d3, -⟩⟩ := box4_c hbq
      go_wp2_with fail
      exact hK'
    go_simp
    refine hK _ ?_
    clear hK K
    refine tree_p rfl rfl rfl rfl _ rfl (by simp) (fun K hK => ?_)
    apply Exists.intro
    refine ⟨fun wq K' hK' => ?_, ?_⟩
    · go_wp2_with fail
      exact hK'
    go_simp
    refine hK _ ?_
    clear hK K
    refine tree_p rfl rfl rfl rfl _ rfl (by simp) (fun K hK => ?_)
    apply Exists.intro
    refine ⟨fun wq K' hK' => ?_, ?_⟩
    · go_wp2_with fail
      exact hK'
    go_simp
    refine hK _ ?_
    clear hK K
    refine tree_p rfl rfl rfl rfl _ rfl (by simp) (fun K hK => ?_)
    apply Exists.intro
    refine ⟨fun wq K' hK' => ?_, ?_⟩
    · go_wp2_with fail
      exact hK'
    go_simp
    refine hK _ ?_
    clear hK K
    refine tree_b rfl rfl rfl rfl _ rfl (by simp) (fun K hK => ?_)
    apply Exists.intro
    refine ⟨fun wq hq K' hK' => ?_, ?_⟩
    · obtain ⟨hBq, hbq, e0, e2⟩ := hY.out wq hq
      obtain ⟨q4, -⟩ := hBq.b4.c 0 rfl
      obtain ⟨q10, -⟩ := hBq.b10.c 0 rfl
      obtain ⟨⟨d0, -⟩, ⟨d1, -⟩, ⟨d2, -⟩, ⟨d3, -⟩⟩ := box4_c hbq
      go_wp2_with fail
      exact hK'
    go_simp
    refine hK _ ?_
    clear hK K
    refine tree_b rfl rfl rfl rfl _ rfl (by simp) (fun K hK => ?_)
    apply Exists.intro
    refine ⟨fun wq hq K' hK' => ?_, ?_⟩
    · obtain ⟨hBq, hbq, e0, e2⟩ := hY.out wq hq
      obtain ⟨q4, -⟩ := hBq.b4.c 0 rfl
      obtain ⟨q10, -⟩ := hBq.b10.c 0 rfl
      obtain ⟨⟨d0, -⟩, ⟨d1, -⟩, ⟨d2, -⟩, ⟨d3, -⟩⟩ := box4_c hbq
      go_wp2_with fail
      exact hK'
    go_simp
    refine hK _ ?_
    clear hK K
    refine tree_b rfl rfl rfl rfl _ rfl (by simp) (fun K hK => ?_)
    apply Exists.intro
    refine ⟨fun wq hq K' hK' => ?_, ?_⟩
    · obtain ⟨hBq, hbq, e0, e2⟩ := hY.out wq hq
      obtain ⟨q4, -⟩ := hBq.b4.c 0 rfl
      obtain ⟨q10, -⟩ := hBq.b10.c 0 rfl
      obtain ⟨⟨d0, -⟩, ⟨d1, -⟩, ⟨d2, -⟩, ⟨d3, -⟩⟩ := box4_c hbq
      go_wp2_with fail
      exact hK'
    go_simp
    refine hK _ ?_
    clear hK K
    refine tree_p rfl rfl rfl rfl _ rfl (by simp) (fun K hK => ?_)
    apply Exists.intro
    refine ⟨fun wq K' hK' => ?_, ?_⟩
    · go_wp2_with fail
      exact hK'
    go_simp
    refine hK _ ?_
    clear hK K
    refine tree_p rfl rfl rfl rfl _ rfl (by simp) (fun K hK => ?_)
    apply Exists.intro
    refine ⟨fun wq K' hK' => ?_, ?_⟩
    · go_wp2_with fail
      exact hK'
    go_simp
    refine hK _ ?_
    clear hK K
    refine tree_p rfl rfl rfl rfl _ rfl (by simp) (fun K hK => ?_)
    apply Exists.intro
    refine ⟨fun wq K' hK' => ?_, ?_⟩
    · go_wp2_with fail
      exact hK'
    go_simp
    refine hK _ ?_
    clear hK K
    refine tree_b rfl rfl rfl rfl _ rfl (by simp) (fun K hK => ?_)
    apply Exists.intro
    refine ⟨fun wq hq K' hK' => ?_, ?_⟩
    · obtain ⟨hBq, hbq, e0, e2⟩ := hY.out wq hq
      obtain ⟨q4, -⟩ := hBq.b4.c 0 rfl
      obtain ⟨q10, -⟩ := hBq.b10.c 0 rfl
      obtain ⟨⟨d0, -⟩, ⟨d1, -⟩, ⟨d2, -⟩, ⟨d3, -⟩⟩ := box4_c hbq
      go_wp2_with fail
      exact hK'
    go_simp
    refine hK _ ?_
    clear hK K
    refine tree_e0 (by kernel_rfl) rfl rfl (fun K hK => ?_)
    go_wp2_with fail
    go_at_call 43
    refine (hcc.out _ (hg6.t (gr_trans hgw7 (World.grownBy.refl _ _)))).mono ?_
    rintro e w8 ⟨rfl, hm8, hg8⟩
    replace hm8 := hide hm8
    go_wp2_with fail
    try go_simp
    refine hK _ _ trivial ?_
    clear hK K
    refine tree_done ?_
    go_wp2_with fail
    go_end0
    exact ⟨rfl, hm8.out, ((GrS.refl _ w).pure (hg6.t hgw7)).trans hg8⟩
  · have hb : (E == 0) = false := by simp [hE]
    have hA : Hid (∀ z, addC E l[k].pr S l[k].at_ a b z = 0) := fun z => if_neg hE
    clear hE hl hB
    go_enter Tryz.func45, Tryz.ntmps45
    go_upto_region 1 with fail
    obtain ⟨w6, hw6⟩ : ∃ x, x = (w).alloc (.cells [.int .i64 S.st, .int .i64 S.since, .string S.mat, .string S.job].toArray 39) := ⟨_, rfl⟩
    have hg6 : (w).grownBy w6 none := by rw [hw6]; exact gr_alloc (World.grownBy.refl _ _) _
    have hb6 : Box w6 (w).heap.size 39 [.int .i64 S.st, .int .i64 S.since, .string S.mat, .string S.job] := by rw [hw6]; exact Box.new _ _ _
    have hxs6 := hb6.lt
    rw [← hw6]
    clear hw6
    obtain ⟨x6, hx6⟩ : ∃ x, x = (w).heap.size := ⟨_, rfl⟩
    rw [← hx6] at hb6 hxs6 ⊢
    have hxl6 : (w).heap.size ≤ x6 := by omega
    clear hx6
    have hm6 := hide (hm.kept hg6 (by simp))
    clear hm
    go_wp2_with fail
    go_end0
    exact ⟨rfl, ⟨m, hm6.out.mono (Nat.le_succ _), fun z => by rw [hA.out, Int.add_zero]⟩, (GrS.refl _ w).pure hg6⟩

end Go.Proofs.YthciblcokogkkaaGreatDoor

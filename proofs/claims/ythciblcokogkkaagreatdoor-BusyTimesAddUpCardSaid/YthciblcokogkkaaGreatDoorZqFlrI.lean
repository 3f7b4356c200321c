/- Contracts of functions that this seat's laws reach, each: what one call returns and what it leaves in memory; no condition beyond each theorem's own hypotheses. -/
import Derived.Test.YthciblcokogkkaaGreatDoorZqFlrH
import Derived.Test.YthciblcokogkkaaGreatDoorZqRefData
set_option linter.unusedVariables false
set_option linter.unusedSimpArgs false
namespace Go.Proofs.YthciblcokogkkaaGreatDoor
open Go Go.RowKit Go.Bl Go.Maps Go.WideShapes

theorem FlI.runM {M : Int} : ∀ {l : List Ev} {F : Flr} {T : Int}, FlI F T → T ≤ M → ordE T l → (∀ e ∈ l, EvOk e ∧ e.at_ ≤ M) → FlI (runS F l) M
  | [], F, T, hF, hT, _, _ => hF.mono hT
  | e :: l, F, T, hF, _, ho, hl => by
    have he := hl e (List.mem_cons_self ..)
    exact FlI.runM (l := l) (F := doS F e) (hF.step he.1 ho.1) he.2 ho.2 fun x hx => hl x (List.mem_cons_of_mem _ hx)

theorem addC_addE (a b : Int) (z : ByteArray) (F : Flr) (e : Ev) : addC (doE F e) e.pr (F.s e.pr) e.at_ a b z = addE a b z F e := by
  unfold addC addO addE
  by_cases h1 : doE F e = 0
  · rw [if_pos h1]
    by_cases h2 : z = e.pr ∧ (F.s e.pr).st = 2
    · rw [if_pos h2, if_pos ⟨h1, h2.1.symm, h2.2⟩]
    · rw [if_neg h2, if_neg (fun h => h2 ⟨h.2.1.symm, h.2.2⟩)]
  · rw [if_neg h1, if_neg (fun h => h1 h.1)]

set_option maxHeartbeats 800000 in
theorem isWindow_any (a b : Int) (w : World) (hab : 0 ≤ a ∧ a ≤ b ∧ b ≤ 345686400000) :
    Calls Tryz.prog 42 #[.agg #[.int .i64 a, .int .i64 b]] w fun e w' => e = .returned (.bool true) ∧ w.grownBy w' none := by
  have hO : outB a 0 b = false := by unfold outB; simp; omega
  have hb : decide (b ≤ 345686400000) = true := by simp; omega
  go_enter Tryz.func42, Tryz.ntmps42
  go_upto_region 1 with fail
  obtain ⟨w1, hw1⟩ : ∃ x, x = (w).alloc (.cells [.int .i64 a, .int .i64 b].toArray 35) := ⟨_, rfl⟩
  have hg1 : (w).grownBy w1 none := by rw [hw1]; exact gr_alloc (World.grownBy.refl _ _) _
  have hb1 : Box w1 (w).heap.size 35 [.int .i64 a, .int .i64 b] := by rw [hw1]; exact Box.new _ _ _
  have hxs1 := hb1.lt
  rw [← hw1]
  clear hw1
  obtain ⟨x1, hx1⟩ : ∃ x, x = (w).heap.size := ⟨_, rfl⟩
  rw [← hx1] at hb1 hxs1 ⊢
  have hxl1 : (w).heap.size ≤ x1 := by omega
  clear hx1
  obtain ⟨q0, -⟩ := hb1.c 0 rfl
  obtain ⟨q1, -⟩ := hb1.c 1 rfl
  go_wp2_with (go_at_call 91; refine (outside_any _ _ _ _).mono ?_; rintro _ _ ⟨rfl, rfl⟩; rw [hO])
  go_ret
  exact ⟨rfl, hg1⟩

/-- Busy's world while events are followed -/
def BusI (w : World) (x4 x5 x9 x10 ml : Nat) (a b : Int) (A : Option Addr) (c : Nat) (p : List Prn) (l : List Ev) (k : Nat) (wx : World) : Prop :=
  BusC wx x4 x5 x9 x10 ml a b A l.length c ∧ w.grownBy wx none ∧ ∃ m, MapOf strI wx ml k m ∧ ∀ z, (m z).getD 0 = accL a b z (newF p) (l.take k)

set_option maxHeartbeats 4000000 in
theorem busI_step (w w0 : World) (x4 x5 x9 x10 ml : Nat) (a b : Int) (A : Option Addr) (c : Nat) (p : List Prn) (l : List Ev) (hl : Sl w 0 A l) (hl5 : l.length ≤ 5000) (hev : ∀ e ∈ l, EvOk e) (hord : ordE 0 l)
    (hab : 0 ≤ a ∧ a ≤ b ∧ b ≤ 345686400000) (hml : w.heap.size ≤ ml) (hm0 : ml < w0.heap.size) (k : Nat) (hk : k < l.length) (wx : World) (hI : BusI w x4 x5 x9 x10 ml a b A c p l k wx) :
    Calls Tryz.prog 45 (#[] ++ (#[.int .i64 k, stdV ((runS (newF p) (l.take k)).s l[k].pr), .int .i64 (doE (runS (newF p) (l.take k)) l[k])] ++ #[.pointer (some ⟨x10, 0, none⟩), .pointer (some ⟨x4, 0, none⟩)])) wx fun e w' => e = .returned (.tuple #[]) ∧ BusI w x4 x5 x9 x10 ml a b A c p l (k + 1) w' ∧ KeepM w0.heap.size wx w' := by
  obtain ⟨hB, hg, m, hm, hmz⟩ := hI
  have hok := hev _ (List.getElem_mem hk)
  have hFI : FlI (runS (newF p) (l.take k)) 345686399999 := FlI.runM (FlI.new p) (by decide) (hord.sub (List.take_sublist k l)) fun e he => by
    have h1 := hev e (List.mem_of_mem_take he)
    exact ⟨h1, h1.at1.2⟩
  have hbd := accL_bd hab.2.1 l[k].pr (l.take k) (newF p)
  have hbd2 : (b - a) * ((l.take k).length : Int) ≤ 345686400000 * 5000 := by
    have h1 : ((l.take k).length : Int) ≤ 5000 := by rw [List.length_take]; omega
    exact Int.mul_le_mul (by omega) h1 (by omega) (by omega)
  have hs1 := hFI.sn l[k].pr
  have hs0 := hFI.lo l[k].pr
  have hat := hok.at1
  refine (busy2_any x4 x5 x9 x10 ml k m a b A c l k hk _ _ wx hB (hl.pure hg) hm (by omega) (ev_okK hok).1 hab ⟨hat.1, by omega⟩ ⟨hs0, by omega⟩ (by rw [hmz]; exact ⟨hbd.1, by omega⟩)).mono ?_
  rintro e w' ⟨rfl, ⟨m', hm', hz'⟩, hG⟩
  refine ⟨rfl, ⟨hB.grs hG fun x hx => by rw [hx]; exact hm.heap, hG.new hg fun x hx => by rw [hx]; exact hml, m', hm', fun z => ?_⟩, fun x hx hty => ?_⟩
  · rw [hz', hmz, accL_take a b z hk, addC_addE]
  · refine hG.block x ?_ (fun e => by rw [e] at hx; omega)
    rcases hty with ⟨es, ck, h1⟩ | ⟨vs, h1⟩
    · exact (Array.getElem?_eq_some_iff.1 h1).1
    · exact h1.lt

theorem GrS.one {w w' : World} {m : Nat} (h : GrS (fun x => x = m) w w') : w.grownBy w' (some m) :=
  { os := h.os, tape := h.tape, output := h.output, size := h.size, block := fun i hi h1 => h.block i hi (fun e => h1 (by rw [e])) }

theorem BusC.row {w w' : World} {x4 x5 x9 x10 ml : Nat} {a b : Int} {A : Option Addr} {n c : Nat} (h : BusC w x4 x5 x9 x10 ml a b A n c) {r : Option Nat} {lo : Nat} (hg : w.grownBy w' r) (hr : ∀ x, r = some x → lo ≤ x) (hx : x4 < lo ∧ x5 < lo ∧ x9 < lo ∧ x10 < lo) : BusC w' x4 x5 x9 x10 ml a b A n c :=
  ⟨h.b4.gr hg (fun e => by have := hr _ e; omega), h.b5.gr hg (fun e => by have := hr _ e; omega), h.b9.gr hg (fun e => by have := hr _ e; omega), h.b10.gr hg (fun e => by have := hr _ e; omega)⟩

theorem FlrAt.row {w w' : World} {f b1 b2 b3 b4 N : Nat} {F : Flr} (h : FlrAt w f b1 b2 b3 b4 N F) {r : Option Nat} (hg : w.grownBy w' r) (hr : ∀ x, x = f ∨ isF b1 b2 b3 b4 x → r ≠ some x) : FlrAt w' f b1 b2 b3 b4 N F :=
  h.blk fun x hx => hg.block x (h.lt hx) (fun e => hr x hx e.symm)

set_option maxHeartbeats 4000000 in
set_option maxRecDepth 100000 in
theorem busy_any (P A : Option Addr) (pc c : Nat) (p : List Prn) (l : List Ev) (a b : Int) (w : World)
    (hpl : Sl w 0 P p) (hp0 : prnsF p = 0) (hl5 : l.length ≤ 5000) (hev : ∀ e ∈ l, EvOk e) (hord : ordE 0 l) (hl : Sl w 0 A l) (hck : chkF p l = 0)
    (hab : 0 ≤ a ∧ a ≤ b ∧ b ≤ 345686400000) :
    Calls Tryz.prog 8 #[.slice P p.length pc, .slice A l.length c, .agg #[.int .i64 a, .int .i64 b]] w fun e w' => ∃ (A' : Option Addr) (c' : Nat), e = .returned (.tuple #[.slice A' p.length c', .int .i64 0]) ∧ Own w' w.heap.size 3 A' c' (p.map fun x => busL a b x.key (newF p) l) ∧ w.grownBy w' none := by
  obtain ⟨L, hL⟩ : ∃ L, L = p.map fun x => busL a b x.key (newF p) l := ⟨_, rfl⟩
  have hLl : Hid (L.length = p.length) := by rw [Hid, hL, List.length_map]
  have hLj : Hid (∀ j (h : j < p.length), L.take (j + 1) = L.take j ++ [busL a b p[j].key (newF p) l]) := fun j h => by
    rw [take_snoc (show j < L.length by rw [hL, List.length_map]; exact h)]
    simp [hL]
  rw [← hL]
  clear hL
  obtain ⟨h50, hpr⟩ := prnsF_zero hp0
  have hpk : Hid (∀ x ∈ p, okK x.key) := fun x hx => by
    obtain ⟨k, hk, rfl⟩ := List.getElem_of_mem hx
    exact Nat.le_trans (keyB_okK (hpr k hk).1.1) (by unfold maxLen; omega)
  have hC := hide fun wx (h : w.grownBy wx none) => checkEvents_any P A pc c p l wx (hpl.pure h) (hl.pure h)
  rw [hck] at hC
  have hW := hide fun wx => isWindow_any a b wx hab
  clear hpr hck
  go_enter Tryz.func8, Tryz.ntmps8
  go_upto_region 1 with fail
  obtain ⟨w5, hw5⟩ : ∃ x, x = ((w).alloc (.cells [.slice A l.length c].toArray 27)).alloc (.cells [.int .i64 a, .int .i64 b].toArray 35) := ⟨_, rfl⟩
  have hba5 : Box w5 (w).heap.size 27 [.slice A l.length c] := by
    rw [hw5]; exact (Box.new (w) [.slice A l.length c] 27).pure (gr_alloc (World.grownBy.refl _ _) _)
  have hbb5 : Box w5 ((w).heap.size + 1) 35 [.int .i64 a, .int .i64 b] := by
    have h := Box.new ((w).alloc (.cells [.slice A l.length c].toArray 27)) [.int .i64 a, .int .i64 b] 35
    rw [show ((w).alloc (.cells [.slice A l.length c].toArray 27)).heap.size = (w).heap.size + 1 by simp] at h
    rw [hw5]; exact h
  have hg5 : (w).grownBy w5 none := by rw [hw5]; exact (by repeat (first | exact World.grownBy.refl _ _ | assumption | refine gr_alloc ?_ _ | (apply gr_tail; assumption) | refine gr_drewN ?_ _ | refine gr_drew ?_))
  rw [← hw5]
  clear hw5
  obtain ⟨xb5, hxb5⟩ : ∃ x, x = (w).heap.size + 1 := ⟨_, rfl⟩
  rw [← hxb5] at hbb5 ⊢
  obtain ⟨xa5, hxa5⟩ : ∃ x, x = (w).heap.size := ⟨_, rfl⟩
  rw [← hxa5] at hba5 ⊢
  have hxn5 : xa5 ≠ xb5 := by omega
  replace hxa5 : (w).heap.size ≤ xa5 := by omega
  replace hxb5 : (w).heap.size ≤ xb5 := by omega
  obtain ⟨q4, -⟩ := hba5.c 0 rfl
  go_wp2_with fail
  refine (hC.out _ hg5).mono ?_
  rintro e w6 ⟨rfl, hg6⟩
  obtain ⟨r0, -⟩ := (hbb5.pure hg6).c 0 rfl
  obtain ⟨r1, -⟩ := (hbb5.pure hg6).c 1 rfl
  go_wp2_with fail
  refine (hW.out _).mono ?_
  rintro e w7 ⟨rfl, hg7⟩
  clear q4 r0 r1 hW hC
  obtain ⟨w8, hw8⟩ : ∃ q, q = w7.alloc (.map #[] 0) := ⟨_, rfl⟩
  have s8 : w8.heap.size = w7.heap.size + 1 := by rw [hw8]; simp
  have m8 : MapOf strI w8 w7.heap.size 0 (fun _ => none) := by rw [hw8]; exact MapOf.made strI w7
  have g8 : w7.grownBy w8 none := by rw [hw8]; exact gr_alloc (World.grownBy.refl _ _) _
  have k1 := run_makeMap (P := Tryz.prog) 83 w7
  rw [← hw8] at k1
  have hgw := ((hg5.t hg6).t hg7).t g8
  have hmlo : w.heap.size ≤ w7.heap.size := by have := ((hg5.t hg6).t hg7).size; omega
  have hmlt : w7.heap.size < w8.heap.size := by omega
  clear hw8 s8
  go_upto_region 7 with fail
  obtain ⟨ml, hml⟩ : ∃ q, q = w7.heap.size := ⟨_, rfl⟩
  rw [← hml] at m8 hmlo hmlt k1 ⊢
  obtain ⟨w9, hw9⟩ : ∃ x, x = (w8).alloc (.cells [.map (some ml)].toArray 83) := ⟨_, rfl⟩
  have hg9 : (w8).grownBy w9 none := by rw [hw9]; exact gr_alloc (World.grownBy.refl _ _) _
  have hb9 : Box w9 (w8).heap.size 83 [.map (some ml)] := by rw [hw9]; exact Box.new _ _ _
  have hxs9 := hb9.lt
  rw [← hw9]
  clear hw9
  obtain ⟨x9, hx9⟩ : ∃ x, x = (w8).heap.size := ⟨_, rfl⟩
  rw [← hx9] at hb9 hxs9 ⊢
  have hxl9 : (w8).heap.size ≤ x9 := by omega
  clear hx9
  obtain ⟨r9, -⟩ := hb9.c 0 rfl
  clear hml k1
  have hsf : ∀ (a : Addr) (fn : Fn) (first cap : Array Value) (m : Mode) (w : World), (store a (.func fn first cap) m).run Tryz.prog w = stored Tryz.prog w a (.func fn first cap) m := fun a fn first cap m w => run_store _ w a _ m rfl
  go_upto_region 8 with fail
  clear hsf
  obtain ⟨w10, hw10⟩ : ∃ x, x = (w9).alloc (.cells [.func (.func 43) #[] #[.pointer (some ⟨x9, 0, none⟩), .pointer (some ⟨xb5, 0, none⟩)]].toArray 84) := ⟨_, rfl⟩
  have hg10 : (w9).grownBy w10 none := by rw [hw10]; exact gr_alloc (World.grownBy.refl _ _) _
  have hb10 : Box w10 (w9).heap.size 84 [.func (.func 43) #[] #[.pointer (some ⟨x9, 0, none⟩), .pointer (some ⟨xb5, 0, none⟩)]] := by rw [hw10]; exact Box.new _ _ _
  have hxs10 := hb10.lt
  rw [← hw10]
  clear hw10
  obtain ⟨x10, hx10⟩ : ∃ x, x = (w9).heap.size := ⟨_, rfl⟩
  rw [← hx10] at hb10 hxs10 ⊢
  have hxl10 : (w9).heap.size ≤ x10 := by omega
  clear hx10
  have hB : BusC w10 xa5 xb5 x9 x10 ml a b A l.length c := ⟨hba5.pure ((((hg6.t hg7).t g8).t hg9).t hg10), hbb5.pure ((((hg6.t hg7).t g8).t hg9).t hg10), hb9.pure hg10, hb10⟩
  have hm10 := m8.kept (hg9.t hg10) (by simp)
  have hgw10 := hgw.t (hg9.t hg10)
  have hml10 : ml < w10.heap.size := hm10.lt
  have hen : ∀ (xs : Array Value) wx, (callFunc 45 xs).run Tryz.prog wx = .ok (.enter 45 xs) wx := fun xs wx => run_enterF Tryz.func45 (by kernel_rfl) rfl xs wx
  have hI0 : BusI w xa5 xb5 x9 x10 ml a b A c p l 0 w10 := ⟨hB, hgw10, _, hm10, fun z => rfl⟩
  have hF := hide (follow_any P A pc c p l 345686400000 45 #[] #[.pointer (some ⟨x10, 0, none⟩), .pointer (some ⟨xa5, 0, none⟩)] (BusI w xa5 xb5 x9 x10 ml a b A c p l) w10 (hpl.pure hgw10) hpk.out h50 hl5 hev
    (fun k wx h => hl.pure h.2.1)
    (fun k wx wy q h1 h2 h3 => ⟨h1.1.grs h2 fun x hx => (h3 x hx).2, h2.new h1.2.1 fun x hx => by have := (h3 x hx).1; have := hgw10.size; omega, let ⟨m, hm, hz⟩ := h1.2.2; ⟨m, hm.blk (h2.block ml hm.lt fun hx => by have := (h3 ml hx).1; omega), hz⟩⟩)
    (fun k hk wx _ h1 => busI_step w w10 xa5 xb5 x9 x10 ml a b A c p l hl hl5 hev hord hab hmlo hml10 k hk wx h1) hen hI0)
  obtain ⟨q4, -⟩ := hB.b4.c 0 rfl
  have hlim : limN l 345686400000 = l.length := limN_all fun e he => by have := (hev e he).at1.2; omega
  rw [hlim, List.take_length] at hF
  have hFI := hide (FlI.runM (M := 345686399999) (FlI.new p) (by decide) hord fun e he => ⟨hev e he, (hev e he).at1.2⟩)
  have hacc := hide fun k => busL_acc a b k l (newF p)
  have hbd := hide fun k => accL_bd hab.2.1 k l (newF p)
  obtain ⟨FF, hFF⟩ : ∃ FF, FF = runS (newF p) l := ⟨_, rfl⟩
  rw [← hFF] at hF hFI hacc
  have hsort := hide (prn_sorted hp0)
  clear hen hI0 hB hm10 hb9 hb10 m8 hba5 hbb5 hlim hFF hev hord hl hp0
  go_wp2_with fail
  refine hF.out.mono ?_
  rintro e w11 ⟨f, b1, b2, b3, b4, rfl, hF11, ⟨hB11, hg11, m, hm11, hmz⟩, hlo⟩
  rw [List.take_length] at hmz
  have hfl : ∀ x, x = f ∨ isF b1 b2 b3 b4 x → ml < x ∧ x < w11.heap.size := fun x hx => ⟨by have := hlo x hx; omega, hF11.lt hx⟩
  have hxl : xa5 < w11.heap.size ∧ xb5 < w11.heap.size ∧ x9 < w11.heap.size ∧ x10 < w11.heap.size := ⟨hB11.b4.lt, hB11.b5.lt, hB11.b9.lt, hB11.b10.lt⟩
  have hml11 : ml < w11.heap.size := hm11.lt
  replace hfl := hide hfl
  replace hmz : Hid (∀ i (h : i < p.length), 0 ≤ i → (m p[i].key).getD 0 = accL a b p[i].key (newF p) l) := fun i h _ => hmz _
  clear hF hlo q4
  go_wp2_with fail
  go_loopw [12, 32] (fun o i wr => ∃ (j : Nat) (A' : Option Addr) (c' : Nat), j ≤ p.length ∧ i = .int .i64 j ∧ o = .slice A' j c' ∧ Own wr w11.heap.size 3 A' c' (L.take j) ∧ BusC wr xa5 xb5 x9 x10 ml a b A l.length c ∧ FlrAt wr f b1 b2 b3 b4 20000 FF ∧ w.grownBy wr none ∧ w11.heap.size ≤ wr.heap.size ∧
    ∃ m, MapOf strI wr ml (l.length + j) m ∧ Hid (∀ i (h : i < p.length), j ≤ i → (m p[i].key).getD 0 = accL a b p[i].key (newF p) l)) (fun _ i _ => p.length - (intOf i).toNat)
  case atStart => exact ⟨0, none, 0, Nat.zero_le _, rfl, rfl, Own.nil _ _ _, hB11, hF11, hg11, Nat.le_refl _, m, hm11, hmz⟩
  case round =>
    clear hmz hm11 hF11 hB11 hg11 m
    obtain ⟨j, A', c', hj, rfl, rfl, hO, hB, hFr, hg, hsz, m, hm, hmz⟩ := hrel
    by_cases hlt : j < p.length
    · obtain ⟨g, o, cx, rfl, hb0, hb1, rfl, hc⟩ := (hpl.pure hg).at_ (by decide) hlt
      have c0 : wr.cell? ⟨g, o + j * 2, none⟩ = some (.string p[j].key) := hc 0 _ rfl
      have c1 : wr.cell? ⟨g, o + j * 2 + 1, none⟩ = some (.string p[j].mat) := hc 1 _ rfl
      clear hc
      have hky := hpk.out _ (List.getElem_mem hlt)
      have hbz := hacc.out p[j].key
      have hbw := hbd.out p[j].key
      have hmj := hmz.out j hlt (Nat.le_refl _)
      have hLn := hide (hLj.out j hlt)
      have hnx : Hid (∀ i (h : i < p.length), j + 1 ≤ i → (m p[i].key).getD 0 = accL a b p[i].key (newF p) l ∧ p[i].key ≠ p[j].key) := fun i h hi => ⟨hmz.out i h (by omega), fun e => by
        have h1 := hsort.out i j h hi
        rw [e, cmpK_zero.2 rfl] at h1
        cases h1⟩
      generalize hpj : p[j] = y at *
      replace hpj := hide hpj
      obtain ⟨S, hS⟩ : ∃ S, S = FF.s y.key := ⟨_, rfl⟩
      have hsn := hFI.out.sn y.key
      have hso := hFI.out.lo y.key
      rw [← hS] at hbz hsn hso
      replace hS := hide hS
      obtain ⟨V, hV⟩ : ∃ V, V = accL a b y.key (newF p) l := ⟨_, rfl⟩
      rw [← hV] at hbz hbw hmj
      have hbw2 : (b - a) * (l.length : Int) ≤ 345686400000 * 5000 := Int.mul_le_mul (by omega) (by omega) (by omega) (by omega)
      have hVb : 0 ≤ V ∧ V ≤ 4000000000000000 := ⟨hbw.1, by omega⟩
      have hmv : 0 ≤ (m y.key).getD 0 ∧ (m y.key).getD 0 ≤ 4000000000000000 := by rw [hmj]; exact hVb
      have hca := hide fun wx (h5 : w11.heap.size ≤ wx.heap.size) (h : BusC wx xa5 xb5 x9 x10 ml a b A l.length c) (h2 : MapOf strI wx ml (l.length + j) m) => busy1_any x9 xb5 ml _ m a b y.key S b wx h.b9 h.b5 h2 (by omega) hky hab ⟨by omega, hab.2.2⟩ ⟨hso, by omega⟩ hmv
      replace hbz := hide hbz
      replace hmj := hide hmj
      clear hbw hbw2 hmv hmz hV hVb
      go_upto_region 13 with fail
      obtain ⟨w14, hw14⟩ : ∃ x, x = (wr).alloc (.cells [.string y.key, .string y.mat].toArray 37) := ⟨_, rfl⟩
      have hg14 : (wr).grownBy w14 none := by rw [hw14]; exact gr_alloc (World.grownBy.refl _ _) _
      have hb14 : Box w14 (wr).heap.size 37 [.string y.key, .string y.mat] := by rw [hw14]; exact Box.new _ _ _
      have hxs14 := hb14.lt
      rw [← hw14]
      clear hw14
      obtain ⟨x14, hx14⟩ : ∃ x, x = (wr).heap.size := ⟨_, rfl⟩
      rw [← hx14] at hb14 hxs14 ⊢
      have hxl14 : (wr).heap.size ≤ x14 := by omega
      clear hx14
      have hY := hide fun wx (h : w14.grownBy wx none) => And.intro (hB.pure (hg14.t h)) (And.intro (hFr.pure (hg14.t h)) (hb14.pure h))
      clear c0 c1
      go_cut [] (fun wx => BusC wx xa5 xb5 x9 x10 ml a b A l.length c ∧ FlrAt wx f b1 b2 b3 b4 20000 FF ∧ Box wx x14 37 [.string y.key, .string y.mat] ∧ wr.grownBy wx (some ml) ∧ ∃ m', MapOf strI wx ml (l.length + j + 1) m' ∧ Hid (∀ z, (m' z).getD 0 = (m z).getD 0 + addO y.key S b a b z))
      case first =>
        refine wp_region_tree (fun wx => w14.grownBy wx none) [1, 2, 1, 2, 2, 2, 1, 2, 1, 1, 2, 1, 0] (.bl 0 (.bl 1 (.bl 2 (.bl 3 (.bl 4 (.bl 5 (.bl 6 (.bl 7 (.bl 8 (.bl 9 (.bl 10 (.bl 11 (.ef 12 .done))))))))))))) (by kernel_rfl) (by kernel_rfl) (gr_drew (World.grownBy.refl _ _)) ?_
        obtain ⟨w7, hw7⟩ : ∃ x, x = (w14).drew := ⟨_, rfl⟩
        rw [← hw7]
        have hgw7 : (w14).grownBy w7 none := by rw [hw7]; exact gr_drew (World.grownBy.refl _ _)
        clear hw7
        refine tree_b rfl rfl rfl rfl _ rfl (by simp) (fun K hK => ?_)
        apply Exists.intro
        refine ⟨fun wq hq K' hK' => ?_, ?_⟩
        · obtain ⟨hBq, hFq, hbq⟩ := hY.out wq hq
          obtain ⟨q5, -⟩ := hBq.b5.c 1 rfl
          obtain ⟨q10, -⟩ := hBq.b10.c 0 rfl
          obtain ⟨f0, -⟩ := hFq.bx.c 0 rfl
          obtain ⟨p0, -⟩ := hbq.c 0 rfl
          have hlk : (Instr.lookup 88 (.map (some b1)) (.string y.key) false).run Tryz.prog wq = .ok (.agg #[.int .i64 S.st, .int .i64 S.since, .string S.mat, .string S.job]) wq := by rw [hS.out]; exact look_T hFq.m1 hky
          go_wp2_with fail
          exact hK'
        go_simp
        refine hK _ ?_
        clear hK K
        refine tree_p rfl rfl rfl rfl _ rfl (by simp) (fun K hK => ?_)
        apply Exists.intro
        refine ⟨fun wq K' hK' => ?_, ?_⟩
        · go_wp2_with fail
          exact hK'
        go_simp
        refine hK _ ?_
        clear hK K
        refine tree_b rfl rfl rfl rfl _ rfl (by simp) (fun K hK => ?_)
        apply Exists.intro
        refine ⟨fun wq hq K' hK' => ?_, ?_⟩
        · obtain ⟨hBq, hFq, hbq⟩ := hY.out wq hq
          obtain ⟨q5, -⟩ := hBq.b5.c 1 rfl
          obtain ⟨q10, -⟩ := hBq.b10.c 0 rfl
          obtain ⟨f0, -⟩ := hFq.bx.c 0 rfl
          obtain ⟨p0, -⟩ := hbq.c 0 rfl
          have hlk : (Instr.lookup 88 (.map (some b1)) (.string y.key) false).run Tryz.prog wq = .ok (.agg #[.int .i64 S.st, .int .i64 S.since, .string S.mat, .string S.job]) wq := by rw [hS.out]; exact look_T hFq.m1 hky
          go_wp2_with fail
          exact hK'
        go_simp
        refine hK _ ?_
        clear hK K
        refine tree_p rfl rfl rfl rfl _ rfl (by simp) (fun K hK => ?_)
        apply Exists.intro
        refine ⟨fun wq K' hK' => ?_, ?_⟩
        · go_wp2_with fail
          exact hK'
        go_simp
        refine hK _ ?_
        clear hK K
        refine tree_n rfl rfl _ rfl _ rfl ?_
        try go_simp
        refine tree_p rfl rfl rfl rfl _ rfl (by simp) (fun K hK => ?_)
        apply Exists.intro
        refine ⟨fun wq K' hK' => ?_, ?_⟩
        · go_wp2_with fail
          exact hK'
        go_simp
        refine hK _ ?_
        clear hK K
        refine tree_b rfl rfl rfl rfl _ rfl (by simp) (fun K hK => ?_)
        apply Exists.intro
        refine ⟨fun wq hq K' hK' => ?_, ?_⟩
        · obtain ⟨hBq, hFq, hbq⟩ := hY.out wq hq
          obtain ⟨q5, -⟩ := hBq.b5.c 1 rfl
          obtain ⟨q10, -⟩ := hBq.b10.c 0 rfl
          obtain ⟨f0, -⟩ := hFq.bx.c 0 rfl
          obtain ⟨p0, -⟩ := hbq.c 0 rfl
          have hlk : (Instr.lookup 88 (.map (some b1)) (.string y.key) false).run Tryz.prog wq = .ok (.agg #[.int .i64 S.st, .int .i64 S.since, .string S.mat, .string S.job]) wq := by rw [hS.out]; exact look_T hFq.m1 hky
          go_wp2_with fail
          exact hK'
        go_simp
        refine hK _ ?_
        clear hK K
        refine tree_p rfl rfl rfl rfl _ rfl (by simp) (fun K hK => ?_)
        apply Exists.intro
        refine ⟨fun wq K' hK' => ?_, ?_⟩
        · go_wp2_with fail
          exact hK'
        go_simp
        refine hK _ ?_
        clear hK K
        refine tree_b rfl rfl rfl rfl _ rfl (by simp) (fun K hK => ?_)
        apply Exists.intro
        refine ⟨fun wq hq K' hK' => ?_, ?_⟩
        · obtain ⟨hBq, hFq, hbq⟩ := hY.out wq hq
          obtain ⟨q5, -⟩ := hBq.b5.c 1 rfl
          obtain ⟨q10, -⟩ := hBq.b10.c 0 rfl
          obtain ⟨f0, -⟩ := hFq.bx.c 0 rfl
          obtain ⟨p0, -⟩ := hbq.c 0 rfl
          have hlk : (Instr.lookup 88 (.map (some b1)) (.string y.key) false).run Tryz.prog wq = .ok (.agg #[.int .i64 S.st, .int .i64 S.since, .string S.mat, .string S.job]) wq := by rw [hS.out]; exact look_T hFq.m1 hky
          go_wp2_with fail
          exact hK'
        go_simp
        refine hK _ ?_
        clear hK K
        refine tree_b rfl rfl rfl rfl _ rfl (by simp) (fun K hK => ?_)
        apply Exists.intro
        refine ⟨fun wq hq K' hK' => ?_, ?_⟩
        · obtain ⟨hBq, hFq, hbq⟩ := hY.out wq hq
          obtain ⟨q5, -⟩ := hBq.b5.c 1 rfl
          obtain ⟨q10, -⟩ := hBq.b10.c 0 rfl
          obtain ⟨f0, -⟩ := hFq.bx.c 0 rfl
          obtain ⟨p0, -⟩ := hbq.c 0 rfl
          have hlk : (Instr.lookup 88 (.map (some b1)) (.string y.key) false).run Tryz.prog wq = .ok (.agg #[.int .i64 S.st, .int .i64 S.since, .string S.mat, .string S.job]) wq := by rw [hS.out]; exact look_T hFq.m1 hky
          go_wp2_with fail
          exact hK'
        go_simp
        refine hK _ ?_
        clear hK K
        refine tree_p rfl rfl rfl rfl _ rfl (by simp) (fun K hK => ?_)
        apply Exists.intro
        refine ⟨fun wq K' hK' => ?_, ?_⟩
        · go_wp2_with fail
          exact hK'
        go_simp
        refine hK _ ?_
        clear hK K
        refine tree_b rfl rfl rfl rfl _ rfl (by simp) (fun K hK => ?_)
        apply Exists.intro
        refine ⟨fun wq hq K' hK' => ?_, ?_⟩
        · obtain ⟨hBq, hFq, hbq⟩ := hY.out wq hq
          obtain ⟨q5, -⟩ := hBq.b5.c 1 rfl
          obtain ⟨q10, -⟩ := hBq.b10.c 0 rfl
          obtain ⟨f0, -⟩ := hFq.bx.c 0 rfl
          obtain ⟨p0, -⟩ := hbq.c 0 rfl
          have hlk : (Instr.lookup 88 (.map (some b1)) (.string y.key) false).run Tryz.prog wq = .ok (.agg #[.int .i64 S.st, .int .i64 S.since, .string S.mat, .string S.job]) wq := by rw [hS.out]; exact look_T hFq.m1 hky
          go_wp2_with fail
          exact hK'
        go_simp
        refine hK _ ?_
        clear hK K
        refine tree_e0 (by kernel_rfl) rfl rfl (fun K hK => ?_)
        obtain ⟨hBq, hFq, hbq⟩ := hY.out w7 (gr_trans hgw7 (World.grownBy.refl _ _))
        have hgq := hg14.t (gr_trans hgw7 (World.grownBy.refl _ _))
        have hmq := hm.kept hgq (by simp)
        have hszq := hgq.size
        go_wp2_with fail
        go_at_call 43
        refine (hca.out _ (by omega) hBq hmq).mono ?_
        rintro e w8 ⟨rfl, ⟨m', hm8, hz8⟩, hg8⟩
        have hB8 := hBq.grs hg8 fun x hx => by rw [hx]; exact hmq.heap
        have hF8 := hFq.row hg8.one fun x hx e => by injection e with e; have := (hfl.out x hx).1; omega
        have hb8 := hg8.box hbq (fun e => by omega)
        have hg8r := (((GrS.refl (fun x => x = ml) wr).pure hgq).trans hg8).one
        replace hz8 := hide hz8
        clear hBq hFq hbq
        go_wp2_with fail
        try go_simp
        refine hK _ _ trivial ?_
        clear hK K
        refine tree_done ?_
        go_wp2_with fail
        go_meet
        exact ⟨hB8, hF8, hb8, hg8r, m', hm8, hz8⟩
      case rest =>
        obtain ⟨hBc, hFc, hbc, hgc, m', hmc, hzc⟩ := hcut
        have hOc := hO.keep hgc (fun g e => by injection e with e; omega)
        have hgw := gr_new hg hgc hmlo
        have hszc := hgc.size
        obtain ⟨q9, -⟩ := hBc.b9.c 0 rfl
        obtain ⟨p0, -⟩ := hbc.c 0 rfl
        obtain ⟨Z, hZ⟩ : ∃ Z, Z = busL a b y.key (newF p) l := ⟨_, rfl⟩
        rw [← hZ] at hLn
        have hlk : (Instr.lookup 83 (.map (some ml)) (.string y.key) false).run Tryz.prog wc = .ok (.int .i64 Z) wc := by
          have h0 := look_I hmc hky
          rw [hzc.out, hmj.out] at h0
          rw [hZ, hbz.out]
          unfold addO at h0
          simpa using h0
        clear hY hca hB hFr hO hm hgc hg hZ
        have hTl : Hid ((L.take j).length = j) := by rw [Hid, List.length_take, hLl.out]; omega
        have hend : Hid (∀ i (h : i < p.length), j + 1 ≤ i → (m' p[i].key).getD 0 = accL a b p[i].key (newF p) l) := fun i h hi => by
          have h1 := hnx.out i h hi
          have h2 : addO y.key S b a b p[i].key = 0 := by
            unfold addO
            rw [if_neg (fun h => h1.2 h.1)]
          rw [hzc.out, h1.1, h2, Int.add_zero]
        clear hnx hzc hmj hbz
        go_wp2_with (at_builtin; obtain ⟨i0, hi, hz, h1, h2⟩ := info_parts info_int; refine wpList_pushAt (α := Int) _ rfl (.tmp 49) (.tmp 54) _ rfl w11.heap.size 3 i0 _ 8 Tryz.underlying22 hi hz h1 h2 rfl _ _ _ (L.take j) rfl ?c1 (by exact (hOc.pure (gr_alloc (World.grownBy.refl _ _) _))) 0 ⟨_, 0, none⟩ 1 1 [Z] rfl rfl (by exact sl_int1 _ _ _ _ (by first | rfl | simp)) ?c2 ?c3 ?c4 ?_)
        case c1 => simp [hTl.out]
        case c2 => first | omega | (simp; omega) | (simp [hTl.out]; omega)
        case c3 => first | (simp [maxLen]; omega) | (unfold maxLen; omega) | (rw [hTl.out]; unfold maxLen; omega)
        case c4 => first | omega | (simp; omega) | (simp [hTl.out]; omega)
        intro A5 c5 w5 hown5 hG5
        have hq := gr_alloc (World.grownBy.refl wc none) (.cells #[.int .i64 Z] 3)
        have hoq := hOc.pure hq
        have hr5 : ∀ x, blk A' = some x → w11.heap.size ≤ x := fun x e => (hoq.blk_lt e).1
        have hB5 := (hBc.pure hq).row hG5.1 hr5 hxl
        have hF5 := (hFc.pure hq).row hG5.1 (fun x hx e => by have := hr5 x e; have := (hfl.out x hx).2; omega)
        have hm5 := (hmc.kept hq (by simp)).kept hG5.1 (fun e => by have := hr5 _ e; omega)
        have hg5 := gr_row (gr_trans hgw hq) hG5.1 (fun x e => by have := hr5 x e; omega)
        have hs5 := hG5.1.size
        have hsq := hq.size
        clear hOc hq hoq hr5 hBc hFc hmc hgw hbc
        go_wp2
        (go_roundw; (case rel => exact ⟨j + 1, A5, c5, by omega, by go_num, by first | rw [hTl.out] | simp [hLl.out]; omega, by rw [hLn.out]; exact hown5, hB5, hF5, hg5, by omega, m', hm5, hend⟩); (case measure => simp [intOf]; omega))
    · obtain rfl : j = p.length := by omega
      have hOz : Own wr w11.heap.size 3 A' c' L := by rw [← hLl.out, List.take_length] at hO; exact hO
      clear hO hmz
      go_wp2_with fail
      go_ret2
      exact ⟨A', c', rfl, hOz.lower (by have := hgw10.size; omega), hg⟩

end Go.Proofs.YthciblcokogkkaaGreatDoor

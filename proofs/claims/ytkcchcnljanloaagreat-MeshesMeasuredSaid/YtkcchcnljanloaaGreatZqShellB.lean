/- Contracts of functions that this seat's laws reach, each: what one call returns and what it leaves in memory; no condition beyond each theorem's own hypotheses. -/
import Derived.Test.YtkcchcnljanloaaGreatZqMeshH
import Derived.Test.YtkcchcnljanloaaGreatZqGpLib
import Derived.Test.YtkcchcnljanloaaGreatZqNestCat
import Derived.Test.YtkcchcnljanloaaGreatZqMeshJ
import Derived.Test.YtkcchcnljanloaaGreatZqTree
import Derived.Test.YtkcchcnljanloaaGreatZqJm
import Derived.Test.YtkcchcnljanloaaGreatShelf
import Derived.Test.YtkcchcnljanloaaGreatZqShellSub
import Derived.Sort.OwnSortedInts
import Derived.WideKeyEntry
import Derived.BigQuiet
set_option linter.unusedVariables false
set_option linter.unusedSimpArgs false
namespace Go.Proofs.YtkcchcnljanloaaGreat
open Go.RowKit Go.Bl Go.Maps Go.WideShapes

def natD (n : Nat) : DataW Unit := .lit (.int .i64 n)

def addrD : Option Addr → DataW Unit
  | none => .nil
  | some ⟨b, o, none⟩ => .agg [natD b, natD o]
  | some ⟨b, o, some s⟩ => .agg [natD b, natD o, natD s]

def rawD (r : RawS) : DataW Unit := .agg [addrD r.A, natD r.n, natD r.c]

def rawR : Value → Option (DataW Unit × List MemPlace)
  | .slice A n c => some (rawD ⟨A, n, c⟩, [])
  | _ => none

theorem natD_inj {a b : Nat} (h : natD a = natD b) : a = b := by
  unfold natD at h
  simp only [DataW.lit.injEq, Lit.int.injEq, true_and] at h
  omega

theorem addrD_inj {a b : Option Addr} (h : addrD a = addrD b) : a = b := by
  match a, b, h with
  | none, none, _ => rfl
  | none, some ⟨_, _, none⟩, h => simp [addrD] at h
  | none, some ⟨_, _, some _⟩, h => simp [addrD] at h
  | some ⟨_, _, none⟩, none, h => simp [addrD] at h
  | some ⟨_, _, some _⟩, none, h => simp [addrD] at h
  | some ⟨b, o, none⟩, some ⟨b', o', none⟩, h =>
    simp only [addrD, DataW.agg.injEq, List.cons.injEq, and_true] at h
    rw [natD_inj h.1, natD_inj h.2]
  | some ⟨_, _, none⟩, some ⟨_, _, some _⟩, h => simp [addrD] at h
  | some ⟨_, _, some _⟩, some ⟨_, _, none⟩, h => simp [addrD] at h
  | some ⟨b, o, some s⟩, some ⟨b', o', some s'⟩, h =>
    simp only [addrD, DataW.agg.injEq, List.cons.injEq, and_true] at h
    rw [natD_inj h.1, natD_inj h.2.1, natD_inj h.2.2]

theorem rawD_inj {a b : RawS} (h : rawD a = rawD b) : a = b := by
  obtain ⟨A, n, c⟩ := a
  obtain ⟨A', n', c'⟩ := b
  simp only [rawD, DataW.agg.injEq, List.cons.injEq, and_true] at h
  rw [addrD_inj h.1, natD_inj h.2.1, natD_inj h.2.2]

/-- rows of faces by sides: map[api.Side][]int -/
noncomputable def sideG : MapTy Tryz.prog Sd RawS where
  k := 63
  e := 22
  kv := sdV
  ok := okS
  kl := sdK
  keyed := side_law
  key := side_key
  kinj := fun x y h => by cases x; cases y; simp [sdV] at h; simp [h]
  inv := side_inv
  R := rawR
  ev := fun r => .slice r.A r.n r.c
  okE := fun _ => True
  el := rawD
  zero := ⟨none, 0, 0⟩
  okZ := trivial
  plain := fun _ _ => rfl
  einv := fun v z h => by
    cases v <;> simp only [rawR, reduceCtorEq, Option.some.injEq] at h
    rename_i A n c
    exact ⟨⟨A, n, c⟩, rfl, trivial, h.symm⟩
  einj := fun _ _ h => rawD_inj h

theorem zero_ints (w : World) : (zeroValue 22).run Tryz.prog w = .ok (.slice none 0 0) w := by kernel_rfl

theorem MapOf.block {P : Program} {α β : Type} {M : MapTy P α β} {w w' : World} {b n : Nat} {m : α → Option β} (h : MapOf M w b n m) (hb : w'.heap[b]? = w.heap[b]?) : MapOf M w' b n m :=
  let ⟨D, ⟨es, clock, h1, h2⟩, h3⟩ := h; ⟨D, ⟨es, clock, hb.trans h1, h2⟩, h3⟩

theorem gr_setBlock {w : World} {b : Nat} {es : Array MapEntry} {clock : Nat} (hb : w.heap[b]? = some (.map es clock)) (o : Obj) : w.grownBy (ChangeMaps.setBlock w b o) (some b) := by
  refine ⟨rfl, rfl, rfl, by simp [ChangeMaps.setBlock], fun i hi hr => ?_⟩
  exact ChangeMaps.heap_setBlock_other hb o (fun e => hr (by rw [e]))

theorem pw_uniq {l : List MapEntry} (h : l.Pairwise fun x y => x.key ≠ y.key) {a b : MapEntry} (ha : a ∈ l) (hb : b ∈ l) (e : a.key = b.key) : a = b := by
  induction l with
  | nil => simp at ha
  | cons x l ih =>
    obtain ⟨h1, h2⟩ := List.pairwise_cons.1 h
    rcases List.mem_cons.1 ha with ea | ka
    · rcases List.mem_cons.1 hb with eb | kb
      · rw [ea, eb]
      · exact absurd (by rw [← ea]; exact e) (h1 b kb)
    · rcases List.mem_cons.1 hb with eb | kb
      · exact absurd (by rw [← eb]; exact e.symm) (h1 a ka)
      · exact ih h2 ka kb

set_option maxRecDepth 20000 in
theorem side_law0 : WideMaps.KeyLaw Tryz.prog 63 := deep_law_laid laidOut (m := 2) (by omega) side_row side_at side_wide

/-- the entry of a key, under way: what is stored there later -/
def Pend (w1 : World) (b n : Nat) (m : Sd → Option RawS) (key : Sd) (st : Nat) : Prop :=
  ∀ (w2 : World) (y : RawS), w2.heap[b]? = w1.heap[b]? → ∃ w3, (Instr.entryStore 101 (.map (some b)) (.int .i64 (st : Int)) (.slice y.A y.n y.c)).run Tryz.prog w2 = .ok () w3 ∧ MapOf sideG w3 b (n + 1) (fun z => if z = key then some y else m z) ∧ w2.grownBy w3 (some b)

theorem entry_G {w : World} {b n : Nat} {m : Sd → Option RawS} (h : MapOf sideG w b n m) (hn : n < maxLen) {key : Sd} (hok : okS key) :
    ∃ (st : Nat) (w1 : World), (Instr.mapEntry 101 (.map (some b)) (sdV key)).run Tryz.prog w = .ok (.tuple #[.slice ((m key).getD ⟨none, 0, 0⟩).A ((m key).getD ⟨none, 0, 0⟩).n ((m key).getD ⟨none, 0, 0⟩).c, .int .i64 (st : Int)]) w1 ∧ w.grownBy w1 (some b) ∧ Pend w1 b n m key st := by
  have hlook := h.look (t := 101) Tryz.underlying101 (zero_ints w) hok
  have hst := fun y : RawS => h.store (t := 101) Tryz.underlying101 hn hok (y := y) trivial
  obtain ⟨D, ⟨es, clock, hb, F, hs, hD⟩, h3⟩ := h
  obtain ⟨v0, st, es1, clock1, hrun, hv, hstore⟩ := WideElems.entry_then_store side_law0 Tryz.underlying101 zero_ints hb F (side_key key hok)
  refine ⟨st, ChangeMaps.setBlock w b (.map es1 clock1), ?_, gr_setBlock hb _, ?_⟩
  · have hv0 : v0 = .slice ((m key).getD ⟨none, 0, 0⟩).A ((m key).getD ⟨none, 0, 0⟩).n ((m key).getD ⟨none, 0, 0⟩).c := by
      rcases Maps.fit_look false side_law Tryz.underlying101 (zero_ints w) hb F (side_key key hok) with ⟨h1, h2, -⟩ | ⟨e0, y, h1, h2, h4, -⟩
      · rcases hv with ⟨e1, he1, he2, -⟩ | ⟨-, rfl⟩
        · exact absurd he2 (h2 e1 he1)
        · have h5 := h1.symm.trans hlook
          simp only [Bool.false_eq_true, if_false, Result.ok.injEq, and_true] at h5
          exact h5
      · have h5 := h4.symm.trans hlook
        simp only [Bool.false_eq_true, if_false, Result.ok.injEq, and_true] at h5
        rcases hv with ⟨e1, he1, he2, rfl⟩ | ⟨hno, -⟩
        · have := pw_uniq ((MapKept.stamped_iff es clock).1 F.stamped).2.2 he1 h1 (he2.trans h2.symm)
          subst this
          exact h5
        · exact absurd h2 (hno e0 h1)
    rw [← hv0]
    exact hrun
  · intro w2 y hw2
    rw [ChangeMaps.heap_setBlock_same hb] at hw2
    obtain ⟨es', clock', hr1, hr2⟩ := hstore w2 (.slice y.A y.n y.c) hw2
    obtain ⟨w', hr3, hM, -⟩ := hst y
    have hr2' : (Instr.mapUpdate 101 (.map (some b)) (sideG.kv key) (sideG.ev y)).run Tryz.prog w = .ok () (ChangeMaps.setBlock w b (.map es' clock')) := hr2
    rw [hr2'] at hr3
    simp only [Result.ok.injEq, true_and] at hr3
    subst hr3
    refine ⟨_, hr1, MapOf.block hM ?_, gr_setBlock hw2 _⟩
    rw [ChangeMaps.heap_setBlock_same hw2, ChangeMaps.heap_setBlock_same hb]

def rawOf (m : Sd → Option RawS) (s : Sd) : RawS := (m s).getD ⟨none, 0, 0⟩
/-- what the rows of a map hold -/
structure GrpOf (w : World) (lo : Nat) (E : List (Sd × Int)) (R : Sd → RawS) : Prop where
  n : ∀ s, (R s).n = (byE E s).length
  own : ∀ s, Own w lo 3 (R s).A (R s).c (byE E s)
  ne : ∀ s t, s ≠ t → ∀ g, blk (R s).A = some g → blk (R t).A ≠ some g

theorem GrpOf.made (w : World) (lo : Nat) : GrpOf w lo [] (rawOf fun _ => none) := ⟨fun _ => rfl, fun _ => Own.nil _ _ _, fun s t _ g h => by cases h⟩

theorem GrpOf.keep {w w' : World} {lo : Nat} {E : List (Sd × Int)} {R : Sd → RawS} {r : Option Nat} (h : GrpOf w lo E R) (hg : w.grownBy w' r) (hr : ∀ g, r = some g → g < lo) : GrpOf w' lo E R :=
  ⟨h.n, fun s => (h.own s).keep hg hr, h.ne⟩

theorem GrpOf.put {w w' : World} {lo : Nat} {E : List (Sd × Int)} {m : Sd → Option RawS} (h : GrpOf w lo E (rawOf m)) {s : Sd} {i : Int} {A' : Option Addr} {c' : Nat} (ho : Own w' lo 3 A' c' (byE E s ++ [i])) (hG : Grew (rawOf m s).A A' w w') :
    GrpOf w' lo (E ++ [(s, i)]) (rawOf fun z => if z = s then some ⟨A', (byE E s ++ [i]).length, c'⟩ else m z) := by
  have hR : ∀ z, rawOf (fun z => if z = s then some (⟨A', (byE E s ++ [i]).length, c'⟩ : RawS) else m z) z = if z = s then ⟨A', (byE E s ++ [i]).length, c'⟩ else rawOf m z := fun z => by
    unfold rawOf
    by_cases hz : z = s
    · simp [hz]
    · simp [hz]
  refine ⟨fun z => ?_, fun z => ?_, fun a b hab g hg => ?_⟩
  · rw [hR, byE_snoc]
    by_cases hz : z = s
    · rw [if_pos hz, if_pos hz.symm, hz]
    · rw [if_neg hz, if_neg (fun e => hz e.symm)]; exact h.n z
  · rw [hR, byE_snoc]
    by_cases hz : z = s
    · rw [if_pos hz, if_pos hz.symm, hz]; exact ho
    · rw [if_neg hz, if_neg (fun e => hz e.symm)]
      exact (h.own z).ne hG.1 (fun g hg q => h.ne z s hz g hg q)
  · rw [hR] at hg ⊢
    have hnew : ∀ z, z ≠ s → ∀ g, blk (rawOf m z).A = some g → blk A' ≠ some g := fun z hz g hg => by
      rcases hG.2 with q | q
      · rw [q]; exact h.ne z s hz g hg
      · rw [q]; have := ((h.own z).blk_lt hg).2; intro e; injection e with e; omega
    by_cases ha : a = s
    · rw [if_pos ha] at hg
      have hb : b ≠ s := fun e => hab (ha.trans e.symm)
      rw [if_neg hb]
      exact fun e => hnew b hb g e hg
    · rw [if_neg ha] at hg
      by_cases hb : b = s
      · rw [if_pos hb]; exact hnew a ha g hg
      · rw [if_neg hb]; exact h.ne a b hab g hg
/-- the rows when they are only read: they lie below a bound -/
structure GrpR (w : World) (hi : Nat) (E : List (Sd × Int)) (R : Sd → RawS) : Prop where
  n : ∀ s, (R s).n = (byE E s).length
  sl : ∀ s, Sl w 0 (R s).A (byE E s)
  lt : ∀ s g, blk (R s).A = some g → g < hi

theorem GrpOf.read {w : World} {lo : Nat} {E : List (Sd × Int)} {R : Sd → RawS} (h : GrpOf w lo E R) : GrpR w w.heap.size E R :=
  ⟨h.n, fun s => (h.own s).sl.mono (Nat.zero_le _), fun s g hg => ((h.own s).blk_lt hg).2⟩

theorem GrpR.keep {w w' : World} {hi : Nat} {E : List (Sd × Int)} {R : Sd → RawS} {r : Option Nat} (h : GrpR w hi E R) (hg : w.grownBy w' r) (hr : ∀ g, r = some g → hi ≤ g) : GrpR w' hi E R :=
  ⟨h.n, fun s => (h.sl s).ne hg (fun g e q => by have := h.lt s g e; have := hr g q; omega), h.lt⟩

def ThawI (w : World) (A : Option Addr) : Prop := ∀ g, blk A = some g → ∀ j, w.frozen? ⟨g, j, none⟩ = false

theorem ThawI.own {α : Type} [Enc α] {w : World} {lo : Nat} {e : TypeId} {A : Option Addr} {c : Nat} {l : List α} (h : Own w lo e A c l) : ThawI w A := by
  intro g hg j
  rcases A with _ | ⟨b, o, s⟩
  · cases hg
  · obtain ⟨hx, cs, hr, h1, h2⟩ := h
    have h : Own w lo e (some ⟨b, o, s⟩) c l := ⟨hx, cs, hr, h1, h2⟩
    rcases h2 with ⟨hv, _⟩ | ⟨g', cap, cur, hv, _⟩
    · cases hv
    · injection hv with e1 _ _
      injection e1 with e1
      cases e1
      have e2 : b = g := by simpa [blk] using hg
      subst e2
      exact h.frozen j

theorem ThawI.gr {w w' : World} {A : Option Addr} {q : Option Nat} (h : ThawI w A) (hlt : ∀ g, blk A = some g → g < w.heap.size) (hg : w.grownBy w' q) (hne : ∀ g, blk A = some g → q ≠ some g) : ThawI w' A :=
  fun g e j => (World.frozen?_of_block (hg.block g (hlt g e) (fun x => hne g e x.symm))).trans (h g e j)
/-- a row of rows of integers, all of one's own and open -/
def NOkI (w : World) (lo : Nat) (A : Option Addr) (r : RawS) (x : List Int) : Prop := NOk RawS w lo A r x ∧ ThawI w r.A

def OwnI (w : World) (lo : Nat) (e : TypeId) (A : Option Addr) (c : Nat) (l : List (List Int)) : Prop := ∃ raws : List RawS, Own w lo e A c raws ∧ All2 (NOkI w lo A) raws l

theorem OwnI.toN {w : World} {lo : Nat} {e : TypeId} {A : Option Addr} {c : Nat} {l : List (List Int)} (h : OwnI w lo e A c l) : OwnN RawS w lo e A c l := by
  obtain ⟨raws, ho, ha⟩ := h
  exact ⟨raws, ho, ha.imp fun _ _ x => x.1⟩

theorem NOkI.gr {w w' : World} {lo : Nat} {A : Option Addr} {r : RawS} {x : List Int} {q : Option Nat} (h : NOkI w lo A r x) (hg : w.grownBy w' q) (hq : ∀ g, blk r.A = some g → q ≠ some g) : NOkI w' lo A r x :=
  ⟨⟨NestOf.gr h.1.1 hg hq, h.1.2⟩, ThawI.gr h.2 (fun g e => (NestOf.lt h.1.1 (g := g) e).2) hg hq⟩

theorem OwnI.pure {w w' : World} {lo : Nat} {e : TypeId} {A : Option Addr} {c : Nat} {l : List (List Int)} (h : OwnI w lo e A c l) (hg : w.grownBy w' none) : OwnI w' lo e A c l := by
  obtain ⟨raws, ho, ha⟩ := h
  exact ⟨raws, ho.pure hg, ha.imp fun _ _ x => NOkI.gr x hg (fun g _ e => by cases e)⟩

theorem OwnI.nil (w : World) (lo : Nat) (e : TypeId) : OwnI w lo e none 0 ([] : List (List Int)) := ⟨[], Own.nil w lo e, .nil⟩

theorem grNI {w w' : World} {lo : Nat} {A : Option Addr} {raws : List RawS} {l : List (List Int)} (h : All2 (NOkI w lo A) raws l) (hg : w.grownBy w' none) : All2 (NOkI w' lo A) raws l := h.imp fun _ _ x => NOkI.gr x hg (fun g _ e => by cases e)

theorem OwnI.keep {w w' : World} {lo : Nat} {e : TypeId} {A : Option Addr} {c : Nat} {l : List (List Int)} {q : Option Nat} (h : OwnI w lo e A c l) (hg : w.grownBy w' q) (hq : ∀ g, q = some g → g < lo) : OwnI w' lo e A c l := by
  obtain ⟨raws, ho, ha⟩ := h
  exact ⟨raws, ho.keep hg hq, ha.imp fun _ _ x => NOkI.gr x hg (fun g hb e => by have := hq g e; have := (NestOf.lt x.1.1 (g := g) hb).1; omega)⟩

theorem OwnI.push {w w' : World} {lo : Nat} {e : TypeId} {A A' : Option Addr} {c' : Nat} {raws : List RawS} {l : List (List Int)} {r : RawS} {x : List Int} (ha : All2 (NOkI w lo A) raws l) (ho' : Own w' lo e A' c' (raws ++ [r])) (hG : Grew A A' w w') (hx : NOkI w lo A r x) : OwnI w' lo e A' c' (l ++ [x]) := by
  refine ⟨raws ++ [r], ho', (ha.snoc hx).imp fun r x hx => ⟨⟨NestOf.gr hx.1.1 hG.1 fun g hb => hx.1.2 g hb, fun g hb => ?_⟩, ThawI.gr hx.2 (fun g e => (NestOf.lt hx.1.1 (g := g) e).2) hG.1 (fun g hb => hx.1.2 g hb)⟩⟩
  rcases hG.2 with h | h
  · rw [h]; exact hx.1.2 g hb
  · rw [h]; have := (NestOf.lt hx.1.1 (g := g) hb).2; intro e; injection e; omega

theorem OwnI.lower {w : World} {lo lo' : Nat} {e : TypeId} {A : Option Addr} {c : Nat} {l : List (List Int)} (h : OwnI w lo e A c l) (hl : lo' ≤ lo) : OwnI w lo' e A c l := by
  obtain ⟨raws, ho, ha⟩ := h
  refine ⟨raws, ho.lower hl, ha.imp fun r x hx => ⟨⟨?_, hx.1.2⟩, hx.2⟩⟩
  obtain ⟨h1, h2, h3, h4⟩ := hx.1.1
  exact ⟨h1, h2, h3.mono hl, fun g hg => ⟨Nat.le_trans hl (h4 g hg).1, (h4 g hg).2⟩⟩

end Go.Proofs.YtkcchcnljanloaaGreat

namespace Go.Proofs.YtkcchcnljanloaaGreat
open Go Go.RowKit Go.Bl

theorem okS_u {u v : Int} (h : okS ⟨u, v⟩) : okS (uSide u v) := by
  unfold uSide
  by_cases hl : u ≤ v
  · rw [show min u v = u by omega, show max u v = v by omega]; exact h
  · rw [show min u v = v by omega, show max u v = u by omega]; exact ⟨h.2, h.1⟩

theorem info_boolS : (Tryz.prog.info? 4).map (fun i => (i.zero, i.size, i.bytes)) = some (some (.bool false), 1, 1) := by kernel_rfl

theorem saw_cell {w : World} {gs n : Nat} {fs : List Fc} {i : Nat} {g : List Nat} (h : Own w 0 4 (some ⟨gs, 0, none⟩) n (sawL fs i g)) {k : Nat} (hk : k < fs.length) :
    w.cell? ⟨gs, k, none⟩ = some (.bool (sawB fs i g k)) ∧ w.frozen? ⟨gs, k, none⟩ = false := by
  have hml : k < (sawL fs i g).length := by rw [sawL_len]; exact hk
  obtain ⟨cc, hcr, hcc⟩ := h.cell_at (by decide) hml
  refine ⟨?_, h.frozen k⟩
  have hcr' : cc = [.bool (sawL fs i g)[k]] := hcr
  rw [sawL_get] at hcr'
  subst hcr'
  have := hcc 0 _ rfl
  rwa [show Enc.sz Bool = 1 from rfl, Nat.mul_one, Nat.add_zero] at this

theorem saw_put {w : World} {gs n : Nat} {fs : List Fc} {i : Nat} {g : List Nat} (h : Own w 0 4 (some ⟨gs, 0, none⟩) n (sawL fs i g)) {k : Nat} (hk : k < fs.length) :
    Own (w.setCell ⟨gs, k, none⟩ (.bool true)) 0 4 (some ⟨gs, 0, none⟩) n (sawL fs i (g ++ [k])) := by
  have hu := h.put (i := k) (j := 0) (x := true) (u := .bool true) (by rw [sawL_len]; exact hk) (by decide) (by rintro c1 rfl; rfl)
  rwa [show k * Enc.sz Bool + 0 = k from by rw [show Enc.sz Bool = 1 from rfl]; omega, sawL_set] at hu

theorem saw_one (fs : List Fc) (i : Nat) : sawB fs i [] i = doneF fs i i := by simp [sawB]

theorem wpList_lookup_G (w : World) {ops : Array Oper} {rest : List Oper} {o : Oper} {a : Act} {Q : Exit → Act → World → Prop} (hg : o.guard = none) (mo x : Operand) (hop : o.op = Op.lookup 101 mo x false)
    (b n : Nat) (m : Sd → Option RawS) (hm : a.eval mo = .map (some b)) (hown : MapOf sideG w b n m) (key : Sd) (hx : a.eval x = .agg #[.int .i64 key.u, .int .i64 key.v]) (hok : okS key) (r : RawS) (hr : rawOf m key = r)
    (hK : wpList Tryz.prog ops Q rest (a.put o.dst (.slice r.A r.n r.c)) w) :
    wpList Tryz.prog ops Q (o :: rest) a w := by
  subst hr
  exact wpList_lookup_M w sideG hg mo x _ hop Tryz.underlying101 (zero_ints w) b n m hm hown key hx hok hK

/-- a group while it grows: w9 the world before it, its blocks lie behind lo9; gs: what was seen -/
structure GI (w9 : World) (lo9 gs n : Nat) (fs : List Fc) (i : Nat) (A : Option Addr) (c : Nat) (g : List Nat) (wx : World) : Prop where
  grw : Grw fs i g
  ow : Own wx lo9 3 A c (gi g)
  sw : Own wx 0 4 (some ⟨gs, 0, none⟩) n (sawL fs i g)
  gr : w9.grownBy wx (some gs)
section
variable {w9 wx wy : World} {lo9 gs n : Nat} {fs : List Fc} {i : Nat} {A : Option Addr} {c : Nat} {g : List Nat}

theorem GI.pure (h : GI w9 lo9 gs n fs i A c g wx) (hg : wx.grownBy wy none) : GI w9 lo9 gs n fs i A c g wy :=
  ⟨h.grw, h.ow.pure hg, h.sw.pure hg, gr_trans h.gr (gr_any hg)⟩

theorem GI.len (h : GI w9 lo9 gs n fs i A c g wx) : (gi g).length ≤ fs.length := by rw [gi_len]; exact h.grw.len
/-- the cell of a face in the group -/
theorem GI.cell (h : GI w9 lo9 gs n fs i A c g wx) {a x : Nat} (ha : a < (gi g).length) (hx : g[a]? = some x) : ∃ gA, A = some ⟨gA, 0, none⟩ ∧ wx.cell? ⟨gA, a, none⟩ = some (.int .i64 x) := by
  obtain ⟨g', o, c1, hA, h1, h2, hr, hc⟩ := h.ow.sl.at_ (by decide) ha
  have h0 : (gi g)[a] = (x : Int) := by
    rw [gi_get ha]
    have hag : a < g.length := by rw [gi_len] at ha; exact ha
    rw [List.getElem?_eq_getElem hag] at hx
    injection hx with hx
    rw [hx]
  rw [h0] at hr
  have hr : c1 = [.int .i64 (x : Int)] := hr
  subst hr
  have hcc := hc 0 _ rfl
  obtain ⟨hm, cs, hrow, ho1, ho2⟩ := h.ow
  rcases ho2 with ⟨hv, _⟩ | ⟨gg, cap, cur, hv, _⟩
  · rw [hA] at hv; cases hv
  · rw [hA] at hv
    injection hv with e1 _ _
    injection e1 with e1
    injection e1 with e1 e2
    subst e1 e2
    refine ⟨_, hA, ?_⟩
    rwa [show Enc.sz Int = 1 from rfl, Nat.mul_one, Nat.add_zero, Nat.zero_add] at hcc

theorem GI.addr (h : GI w9 lo9 gs n fs i A c g wx) : ∃ gA, A = some ⟨gA, 0, none⟩ ∧ lo9 ≤ gA := by
  have hne := List.ne_nil_of_mem h.grw.mem
  obtain ⟨x, r, rfl⟩ := List.exists_cons_of_ne_nil hne
  obtain ⟨gA, e, -⟩ := h.cell (a := 0) (x := x) (by rw [gi_len]; simp) rfl
  subst e
  exact ⟨gA, rfl, (h.ow.blk_lt (g := gA) rfl).1⟩
/-- a face more -/
theorem GI.snoc (h : GI w9 lo9 gs fs.length fs i A c g wx) (hgl : gs < lo9) (hl9 : w9.heap.size ≤ lo9) {x k : Nat} (hx : x ∈ g) (hk : k < fs.length) (ha : adjF fs x k) (hn : k ∉ g) {w1 wy : World} (h1 : (wx.setCell ⟨gs, k, none⟩ (.bool true)).grownBy w1 none)
    {A' : Option Addr} {c' : Nat} (ho : Own wy lo9 3 A' c' (gi g ++ [(k : Int)])) (hG : Grew A A' w1 wy) : GI w9 lo9 gs fs.length fs i A' c' (g ++ [k]) wy := by
  have hlt : ∀ b, blk A = some b → lo9 ≤ b := fun b hb => (h.ow.blk_lt hb).1
  have hs := (saw_put h.sw hk).pure h1
  refine ⟨h.grw.snoc hx hk ha hn, by rw [gi_snoc]; exact ho, hs.ne hG.1 (fun b hb e => ?_), ?_⟩
  · have := hlt b e
    have : gs = b := by simpa [blk] using hb
    omega
  · have g1 := gr_trans (gr_set h.gr (p := ⟨gs, k, none⟩) (.inl rfl) (.bool true)) (gr_any h1)
    exact gr_row g1 hG.1 (fun b hb => Nat.le_trans hl9 (hlt b hb))
end

end Go.Proofs.YtkcchcnljanloaaGreat

namespace Go.Proofs.YtkcchcnljanloaaGreat
open Go Go.RowKit Go.Bl Go.Sort

theorem row_intsE {w : World} {lo : Nat} {l : List Int} {cs : List Value} (h : Row w lo l cs) : cs = l.map (Value.int .i64) := by
  induction l generalizing cs with
  | nil => exact h
  | cons x l ih =>
    obtain ⟨c1, c2, rfl, h1, h2⟩ := h
    rw [ih h2]
    have h1 : c1 = [.int .i64 x] := h1
    rw [h1]; rfl

theorem sortInts_any (g c lo : Nat) (l : List Int) (w : World) (ho : Own w lo 3 (some ⟨g, 0, none⟩) c l) (hl : l.length ≤ 1000000) :
    Calls Tryz.prog 56 #[.slice (some ⟨g, 0, none⟩) l.length c] w fun e w' => e = .returned (.tuple #[]) ∧ ∃ l' : List Int, l'.Perm l ∧ l'.Pairwise (· ≤ ·) ∧ Own w' lo 3 (some ⟨g, 0, none⟩) c l' ∧ w.grownBy w' (some g) := by
  have hlt := (ho.blk_lt (g := g) rfl).2
  obtain ⟨hm, cs, hr, h1, h2⟩ := ho
  rcases h2 with ⟨hv, _⟩ | ⟨g', cap, cur, hv, hb, hh, hn, hcm, hs, ht⟩
  · cases hv
  · injection hv with e1 _ e3
    injection e1 with e1
    injection e1 with e1
    subst e1 e3
    rw [row_intsE hr, show Enc.sz Int = 1 from rfl, Nat.mul_one] at ht
    refine (Tryz.slices_Sort_int g 0 c l w (holds_of_blockI hh ht) hlt (by omega)).mono ?_
    rintro e w' ⟨rfl, n, os, rfl⟩
    have hp := List.mergeSort_perm l fun x y => decide (x ≤ y)
    have hlen := hp.length_eq
    refine ⟨rfl, _, hp, ?_, ⟨by rw [hlen]; exact hm, _, row_ints _ lo _, ?_⟩, grownBy_sortedI _⟩
    · have := List.pairwise_mergeSort (le := fun x y : Int => decide (x ≤ y)) (fun a b c h1 h2 => by simp only [decide_eq_true_eq] at *; omega) (fun a b => by simp only [Bool.or_eq_true, decide_eq_true_eq]; omega) l
      exact this.imp fun h => by simpa using h
    · have := ownsRow_sortedI (w := w) (n := n) (os := os) (e := 3) hlen hb hh hn hcm hs
      rw [hlen]
      exact this

end Go.Proofs.YtkcchcnljanloaaGreat

namespace Go.Proofs.YtkcchcnljanloaaGreat
open Go Go.RowKit Go.Bl

theorem info_intsS : (Tryz.prog.info? 22).map (fun i => (i.zero, i.size, i.bytes)) = some (some (.slice none 0 0), 1, 24) := by kernel_rfl

set_option maxHeartbeats 4000000 in
set_option maxRecDepth 100000 in
theorem shells_any (A : Option Addr) (n c : Nat) (B : Option Addr) (d : Nat) (fs : List Fc) (w : World) (hfs : Sl w 0 B fs) (hf1 : fs.length ≤ 1000) (hok0 : ∀ s ∈ allS fs, okS s) :
    Calls Tryz.prog 40 #[.agg #[.slice A n c, .slice B fs.length d]] w fun e w' => ∃ (O : Option Addr) (co : Nat), e = .returned (.slice O (shellsI fs fs.length).length co) ∧ OwnI w' w.heap.size 22 O co (shellsI fs fs.length) ∧ w.grownBy w' none := by
  have hm2 := hfs.1
  unfold maxLen at hm2
  replace hok0 := hide hok0
  have hg0 := gr_alloc (World.grownBy.refl w none) (.cells #[.slice A n c, .slice B fs.length d] 29)
  have b1 := (Cell.new w [.slice A n c, .slice B fs.length d] 29 1 _ rfl _ rfl).1
  have hlt0 : w.heap.size < (w.alloc (.cells #[.slice A n c, .slice B fs.length d] 29)).heap.size := by simp
  have hmk := run_makeMap (P := Tryz.prog) 101 (w.alloc (.cells #[.slice A n c, .slice B fs.length d] 29))
  have hM0 := MapOf.made sideG (w.alloc (.cells #[.slice A n c, .slice B fs.length d] 29))
  have hge := gr_alloc (World.grownBy.refl (w.alloc (.cells #[.slice A n c, .slice B fs.length d] 29)) none) (.map #[] 0)
  have b3 := hge.k b1
  have hsz : (w.alloc (.cells #[.slice A n c, .slice B fs.length d] 29)).heap.size = w.heap.size + 1 := by simp
  rw [hsz] at hmk hM0 hlt0
  clear hsz
  go_enter Tryz.func40, Tryz.ntmps40
  go_wp2_with fail
  clear hmk b1
  have hgC := gr_trans hg0 hge
  generalize hWm : (w.alloc (.cells #[.slice A n c, .slice B fs.length d] 29)).alloc (.map #[] 0) = W3 at *
  generalize hbm : w.heap.size + 1 = bm at *
  have hgW3 := World.grownBy.refl W3 (some bm)
  clear hWm hge
  have hbw : w.heap.size ≤ bm := by omega
  have hbx : w.heap.size < bm := by omega
  clear hg0 hbm
  have hG0 := GrpOf.made W3 W3.heap.size
  obtain ⟨lo, hlo⟩ : ∃ lo, lo = W3.heap.size := ⟨_, rfl⟩
  rw [← hlo] at hG0
  have hbl : bm < lo := by rw [hlo]; exact hM0.lt
  have hlo1 : lo ≤ W3.heap.size := by omega
  have hlo2 : W3.heap.size ≤ lo := by omega
  clear hlo
  replace hM0 := hide hM0
  replace hG0 := hide hG0
  go_loopw [22] (fun i wr => ∃ (k : Nat) (m : Sd → Option RawS), k ≤ fs.length ∧ i = .int .i64 k ∧ w.grownBy wr none ∧ W3.grownBy wr (some bm) ∧ MapOf sideG wr bm (3 * k) m ∧ GrpOf wr lo (evTo fs k 0) (rawOf m)) (fun i _ => fs.length - (intOf i).toNat)
  case atStart => exact ⟨0, _, Nat.zero_le _, rfl, hgC, hgW3, by simpa using hM0.out, by rw [evTo_zero]; exact hG0.out⟩
  case round =>
    obtain ⟨k, m, hk, rfl, hg, hgW, hM, hG⟩ := hrel
    by_cases hlt : k < fs.length
    · have hok : Hid (∀ s ∈ sdsOf fs[k], okS s) := fun s hs => hok0.out s (List.mem_flatMap.2 ⟨_, List.getElem_mem hlt, hs⟩)
      have hfc : fcAt fs k = fs[k] := by simp [fcAt, List.getD_eq_getElem?_getD, hlt]
      have HE : Hid (∀ j, j < 3 → evTo fs k (j + 1) = evTo fs k j ++ [((keysF fs[k]).getD j default, (k : Int))]) := fun j hj => by rw [evTo_step fs k hj, hfc]
      have HN : Hid (evTo fs k 3 = evTo fs (k + 1) 0) := evTo_next fs k
      clear hfc
      obtain ⟨g, o, cx, rfl, hb0, hb1, rfl, hc⟩ := (hfs.pure hg).at_ (by decide) hlt
      have v0 : wr.cell? ⟨g, o + k * 3, none⟩ = some (.int .i64 fs[k].a) := hc 0 _ rfl
      have v1 : wr.cell? ⟨g, o + k * 3 + 1, none⟩ = some (.int .i64 fs[k].b) := hc 1 _ rfl
      have v2 : wr.cell? ⟨g, o + k * 3 + 2, none⟩ = some (.int .i64 fs[k].c) := hc 2 _ rfl
      clear hc
      generalize fs[k] = f at *
      replace hM := hide hM
      replace hG := hide hG
      go_wp2_with fail
      refine (sides_any f _).mono ?_
      rintro e w2 ⟨rfl, hg2⟩
      have hga := gr_alloc (World.grownBy.refl wr none) (.cells #[.int .i64 f.a, .int .i64 f.b, .int .i64 f.c] 58)
      have hgr2 := hga.t hg2
      have hM2 := hide (hM.out.kept hgr2 (by simp))
      have hG2 := hide (hG.out.keep hgr2 (fun g e => by cases e))
      have hgw2 := hg.t hgr2
      have hgW2 := gr_trans hgW (gr_any hgr2)
      clear hM hG v0 v1 v2 hg2 hg hgW hb0 hb1 hga hgr2
      go_wp2_with fail
      go_loopw [29] (fun i wr => ∃ (j : Nat) (m : Sd → Option RawS), j ≤ 3 ∧ i = .int .i64 j ∧ w.grownBy wr none ∧ W3.grownBy wr (some bm) ∧ MapOf sideG wr bm (3 * k + j) m ∧ GrpOf wr lo (evTo fs k j) (rawOf m)) (fun i _ => 3 - (intOf i).toNat)
      case atStart => exact ⟨0, m, by omega, rfl, hgw2, hgW2, hM2.out, hG2.out⟩
      case round =>
        clear hM2 hG2 hgw2 hgW2 hG0 hM0 hgW3 hgC
        obtain ⟨j, m, hj, rfl, hg, hgW, hM, hG⟩ := hrel
        replace hM := hide hM
        replace hG := hide hG
        by_cases hjt : j < 3
        · obtain rfl | rfl | rfl : j = 0 ∨ j = 1 ∨ j = 2 := by omega
          · have hix := index3_0 wr f.a f.b f.b f.c f.c f.a
            have hok1 : Hid (okS (uSide f.a f.b)) := okS_u (hok.out ⟨f.a, f.b⟩ (by simp [sdsOf]))
            have HE1 : Hid (evTo fs k (0 + 1) = evTo fs k 0 ++ [(uSide f.a f.b, (k : Int))]) := HE.out 0 (by omega)
            obtain ⟨WX, hWX⟩ : ∃ x, x = ((wr.alloc (.cells #[.int .i64 (f.a), .int .i64 (f.b)] 63)).alloc (.cells #[.int .i64 (min f.a f.b), .int .i64 (max f.a f.b)] 63)).alloc (.cells #[.int .i64 (k : Int)] 3) := ⟨_, rfl⟩
            have hgX : wr.grownBy WX none := by rw [hWX]; exact (by repeat (first | exact World.grownBy.refl _ _ | assumption | refine gr_alloc ?_ _ | (apply gr_tail; assumption) | refine gr_drewN ?_ _ | refine gr_drew ?_))
            have hs0 : Sl WX 0 (some ⟨wr.heap.size + 1 + 1, 0, none⟩) [(k : Int)] := by rw [hWX]; exact sl_int1 _ 3 (k : Int) _ (by simp)
            obtain ⟨st, w1, hrun, hq1, hP⟩ := entry_G (hM.out.kept hgX (by simp)) (by simp [maxLen]; omega) hok1.out
            obtain ⟨R, hR⟩ : ∃ R, R = rawOf m (uSide f.a f.b) := ⟨_, rfl⟩
            replace hrun : (Instr.mapEntry 101 (.map (some bm)) (.agg #[.int .i64 (min f.a f.b), .int .i64 (max f.a f.b)])).run Tryz.prog (((wr.alloc (.cells #[.int .i64 (f.a), .int .i64 (f.b)] 63)).alloc (.cells #[.int .i64 (min f.a f.b), .int .i64 (max f.a f.b)] 63)).alloc (.cells #[.int .i64 (k : Int)] 3)) = .ok (.tuple #[.slice R.A R.n R.c, .int .i64 (st : Int)]) w1 := by rw [hR, ← hWX]; exact hrun
            have hG1 := hG.out.keep (gr_trans (gr_any hgX) hq1) (fun g e => by injection e; omega)
            have hgW1 : W3.grownBy w1 (some bm) := gr_trans hgW (gr_trans (gr_any hgX) hq1)
            have hg1 : w.grownBy w1 none := gr_new (gr_trans hg hgX) hq1 hbw
            have hbr := hM.out.lt
            have hs1 : Sl w1 0 (some ⟨wr.heap.size + 1 + 1, 0, none⟩) [(k : Int)] := hs0.ne hq1 (fun g e q => by simp [blk] at e q; omega)
            have hnn := hG1.n (uSide f.a f.b)
            have hos := hG1.own (uSide f.a f.b)
            have hPut := fun A' c' w' ho hG => GrpOf.put (A' := A') (c' := c') (w' := w') hG1 (s := uSide f.a f.b) (i := (k : Int)) ho hG
            rw [← HE1.out] at hPut
            replace hPut := hide hPut
            rw [← hR] at hnn hos
            replace hPut : Hid (∀ A' c' w', Own w' lo 3 A' c' (byE (evTo fs k 0) (uSide f.a f.b) ++ [(k : Int)]) → Grew R.A A' w1 w' → GrpOf w' lo (evTo fs k (0 + 1)) (rawOf fun z => if z = uSide f.a f.b then some ⟨A', (byE (evTo fs k 0) (uSide f.a f.b) ++ [(k : Int)]).length, c'⟩ else m z)) := by rw [hR]; exact hPut
            clear hR hWX hs0 hM hG hgX hG1
            replace hnn := hide hnn
            have hbe : Hid (∀ g, blk R.A = some g → lo ≤ g) := fun g e => (hos.blk_lt e).1
            have hel : (byE (evTo fs k 0) (uSide f.a f.b)).length ≤ 3 * k + 3 := Nat.le_trans (byE_len _ _) (evTo_len _ _ _)
            generalize byE (evTo fs k 0) (uSide f.a f.b) = L at *
            have hl1 := hgW1.size
            obtain ⟨i0, hi, hz, hi1, hi2⟩ := info_parts info_int
            go_upto_region 9 with fail
            go_wp2_with (at_builtin; refine wpList_pushAt (α := Int) _ rfl (.tmp 45) (.tmp 47) _ rfl lo 3 i0 _ 8 Tryz.underlying22 hi hz hi1 hi2 rfl R.A R.n R.c L rfl hnn.out hos 0 ⟨_, 0, none⟩ 1 1 [(k : Int)] rfl rfl hs1 ?c2 ?c3 ?c4 ?_)
            case c2 => simp; omega
            case c3 => simp [maxLen]; omega
            case c4 => omega
            intro A4 c4 w4 ho4 hG4
            have hG5 := hPut.out _ _ _ ho4 hG4
            have hgW4 := gr_row hgW1 hG4.1 (fun g e => Nat.le_trans hlo2 (hbe.out g e))
            have hg4 := gr_row hg1 hG4.1 (fun g e => Nat.le_trans (by omega) (hbe.out g e))
            have hb4 := hG4.1.block bm (by omega) (fun e => by have := hbe.out bm e.symm; omega)
            clear hPut hs1 hos hnn hg1 hgW1 hrun
            obtain ⟨w5, hrun5, hM5, hq5⟩ := hP w4 ⟨A4, (L ++ [(k : Int)]).length, c4⟩ hb4
            rw [show (L ++ [(k : Int)]).length = L.length + 1 by simp] at hrun5
            have hgW5 := gr_trans hgW4 hq5
            have hg5 := gr_new hg4 hq5 hbw
            replace hG5 := hide (hG5.keep hq5 (fun g e => by injection e; omega))
            replace hM5 := hide hM5
            clear hP hb4 hgW4 hg4
            go_wp2_with fail
            go_roundw
            case rel => exact ⟨0 + 1, _, by omega, by go_num, hg5, hgW5, hM5.out.mono (by omega), hG5.out⟩
            case measure => simp [intOf]
          · have hix := index3_1 wr f.a f.b f.b f.c f.c f.a
            have hok1 : Hid (okS (uSide f.b f.c)) := okS_u (hok.out ⟨f.b, f.c⟩ (by simp [sdsOf]))
            have HE1 : Hid (evTo fs k (1 + 1) = evTo fs k 1 ++ [(uSide f.b f.c, (k : Int))]) := HE.out 1 (by omega)
            obtain ⟨WX, hWX⟩ : ∃ x, x = ((wr.alloc (.cells #[.int .i64 (f.b), .int .i64 (f.c)] 63)).alloc (.cells #[.int .i64 (min f.b f.c), .int .i64 (max f.b f.c)] 63)).alloc (.cells #[.int .i64 (k : Int)] 3) := ⟨_, rfl⟩
            have hgX : wr.grownBy WX none := by rw [hWX]; exact (by repeat (first | exact World.grownBy.refl _ _ | assumption | refine gr_alloc ?_ _ | (apply gr_tail; assumption) | refine gr_drewN ?_ _ | refine gr_drew ?_))
            have hs0 : Sl WX 0 (some ⟨wr.heap.size + 1 + 1, 0, none⟩) [(k : Int)] := by rw [hWX]; exact sl_int1 _ 3 (k : Int) _ (by simp)
            obtain ⟨st, w1, hrun, hq1, hP⟩ := entry_G (hM.out.kept hgX (by simp)) (by simp [maxLen]; omega) hok1.out
            obtain ⟨R, hR⟩ : ∃ R, R = rawOf m (uSide f.b f.c) := ⟨_, rfl⟩
            replace hrun : (Instr.mapEntry 101 (.map (some bm)) (.agg #[.int .i64 (min f.b f.c), .int .i64 (max f.b f.c)])).run Tryz.prog (((wr.alloc (.cells #[.int .i64 (f.b), .int .i64 (f.c)] 63)).alloc (.cells #[.int .i64 (min f.b f.c), .int .i64 (max f.b f.c)] 63)).alloc (.cells #[.int .i64 (k : Int)] 3)) = .ok (.tuple #[.slice R.A R.n R.c, .int .i64 (st : Int)]) w1 := by rw [hR, ← hWX]; exact hrun
            have hG1 := hG.out.keep (gr_trans (gr_any hgX) hq1) (fun g e => by injection e; omega)
            have hgW1 : W3.grownBy w1 (some bm) := gr_trans hgW (gr_trans (gr_any hgX) hq1)
            have hg1 : w.grownBy w1 none := gr_new (gr_trans hg hgX) hq1 hbw
            have hbr := hM.out.lt
            have hs1 : Sl w1 0 (some ⟨wr.heap.size + 1 + 1, 0, none⟩) [(k : Int)] := hs0.ne hq1 (fun g e q => by simp [blk] at e q; omega)
            have hnn := hG1.n (uSide f.b f.c)
            have hos := hG1.own (uSide f.b f.c)
            have hPut := fun A' c' w' ho hG => GrpOf.put (A' := A') (c' := c') (w' := w') hG1 (s := uSide f.b f.c) (i := (k : Int)) ho hG
            rw [← HE1.out] at hPut
            replace hPut := hide hPut
            rw [← hR] at hnn hos
            replace hPut : Hid (∀ A' c' w', Own w' lo 3 A' c' (byE (evTo fs k 1) (uSide f.b f.c) ++ [(k : Int)]) → Grew R.A A' w1 w' → GrpOf w' lo (evTo fs k (1 + 1)) (rawOf fun z => if z = uSide f.b f.c then some ⟨A', (byE (evTo fs k 1) (uSide f.b f.c) ++ [(k : Int)]).length, c'⟩ else m z)) := by rw [hR]; exact hPut
            clear hR hWX hs0 hM hG hgX hG1
            replace hnn := hide hnn
            have hbe : Hid (∀ g, blk R.A = some g → lo ≤ g) := fun g e => (hos.blk_lt e).1
            have hel : (byE (evTo fs k 1) (uSide f.b f.c)).length ≤ 3 * k + 3 := Nat.le_trans (byE_len _ _) (evTo_len _ _ _)
            generalize byE (evTo fs k 1) (uSide f.b f.c) = L at *
            have hl1 := hgW1.size
            obtain ⟨i0, hi, hz, hi1, hi2⟩ := info_parts info_int
            go_upto_region 9 with fail
            go_wp2_with (at_builtin; refine wpList_pushAt (α := Int) _ rfl (.tmp 45) (.tmp 47) _ rfl lo 3 i0 _ 8 Tryz.underlying22 hi hz hi1 hi2 rfl R.A R.n R.c L rfl hnn.out hos 0 ⟨_, 0, none⟩ 1 1 [(k : Int)] rfl rfl hs1 ?c2 ?c3 ?c4 ?_)
            case c2 => simp; omega
            case c3 => simp [maxLen]; omega
            case c4 => omega
            intro A4 c4 w4 ho4 hG4
            have hG5 := hPut.out _ _ _ ho4 hG4
            have hgW4 := gr_row hgW1 hG4.1 (fun g e => Nat.le_trans hlo2 (hbe.out g e))
            have hg4 := gr_row hg1 hG4.1 (fun g e => Nat.le_trans (by omega) (hbe.out g e))
            have hb4 := hG4.1.block bm (by omega) (fun e => by have := hbe.out bm e.symm; omega)
            clear hPut hs1 hos hnn hg1 hgW1 hrun
            obtain ⟨w5, hrun5, hM5, hq5⟩ := hP w4 ⟨A4, (L ++ [(k : Int)]).length, c4⟩ hb4
            rw [show (L ++ [(k : Int)]).length = L.length + 1 by simp] at hrun5
            have hgW5 := gr_trans hgW4 hq5
            have hg5 := gr_new hg4 hq5 hbw
            replace hG5 := hide (hG5.keep hq5 (fun g e => by injection e; omega))
            replace hM5 := hide hM5
            clear hP hb4 hgW4 hg4
            go_wp2_with fail
            go_roundw
            case rel => exact ⟨1 + 1, _, by omega, by go_num, hg5, hgW5, hM5.out.mono (by omega), hG5.out⟩
            case measure => simp [intOf]
          · have hix := index3_2 wr f.a f.b f.b f.c f.c f.a
            have hok1 : Hid (okS (uSide f.c f.a)) := okS_u (hok.out ⟨f.c, f.a⟩ (by simp [sdsOf]))
            have HE1 : Hid (evTo fs k (2 + 1) = evTo fs k 2 ++ [(uSide f.c f.a, (k : Int))]) := HE.out 2 (by omega)
            obtain ⟨WX, hWX⟩ : ∃ x, x = ((wr.alloc (.cells #[.int .i64 (f.c), .int .i64 (f.a)] 63)).alloc (.cells #[.int .i64 (min f.c f.a), .int .i64 (max f.c f.a)] 63)).alloc (.cells #[.int .i64 (k : Int)] 3) := ⟨_, rfl⟩
            have hgX : wr.grownBy WX none := by rw [hWX]; exact (by repeat (first | exact World.grownBy.refl _ _ | assumption | refine gr_alloc ?_ _ | (apply gr_tail; assumption) | refine gr_drewN ?_ _ | refine gr_drew ?_))
            have hs0 : Sl WX 0 (some ⟨wr.heap.size + 1 + 1, 0, none⟩) [(k : Int)] := by rw [hWX]; exact sl_int1 _ 3 (k : Int) _ (by simp)
            obtain ⟨st, w1, hrun, hq1, hP⟩ := entry_G (hM.out.kept hgX (by simp)) (by simp [maxLen]; omega) hok1.out
            obtain ⟨R, hR⟩ : ∃ R, R = rawOf m (uSide f.c f.a) := ⟨_, rfl⟩
            replace hrun : (Instr.mapEntry 101 (.map (some bm)) (.agg #[.int .i64 (min f.c f.a), .int .i64 (max f.c f.a)])).run Tryz.prog (((wr.alloc (.cells #[.int .i64 (f.c), .int .i64 (f.a)] 63)).alloc (.cells #[.int .i64 (min f.c f.a), .int .i64 (max f.c f.a)] 63)).alloc (.cells #[.int .i64 (k : Int)] 3)) = .ok (.tuple #[.slice R.A R.n R.c, .int .i64 (st : Int)]) w1 := by rw [hR, ← hWX]; exact hrun
            have hG1 := hG.out.keep (gr_trans (gr_any hgX) hq1) (fun g e => by injection e; omega)
            have hgW1 : W3.grownBy w1 (some bm) := gr_trans hgW (gr_trans (gr_any hgX) hq1)
            have hg1 : w.grownBy w1 none := gr_new (gr_trans hg hgX) hq1 hbw
            have hbr := hM.out.lt
            have hs1 : Sl w1 0 (some ⟨wr.heap.size + 1 + 1, 0, none⟩) [(k : Int)] := hs0.ne hq1 (fun g e q => by simp [blk] at e q; omega)
            have hnn := hG1.n (uSide f.c f.a)
            have hos := hG1.own (uSide f.c f.a)
            have hPut := fun A' c' w' ho hG => GrpOf.put (A' := A') (c' := c') (w' := w') hG1 (s := uSide f.c f.a) (i := (k : Int)) ho hG
            rw [← HE1.out] at hPut
            replace hPut := hide hPut
            rw [← hR] at hnn hos
            replace hPut : Hid (∀ A' c' w', Own w' lo 3 A' c' (byE (evTo fs k 2) (uSide f.c f.a) ++ [(k : Int)]) → Grew R.A A' w1 w' → GrpOf w' lo (evTo fs k (2 + 1)) (rawOf fun z => if z = uSide f.c f.a then some ⟨A', (byE (evTo fs k 2) (uSide f.c f.a) ++ [(k : Int)]).length, c'⟩ else m z)) := by rw [hR]; exact hPut
            clear hR hWX hs0 hM hG hgX hG1
            replace hnn := hide hnn
            have hbe : Hid (∀ g, blk R.A = some g → lo ≤ g) := fun g e => (hos.blk_lt e).1
            have hel : (byE (evTo fs k 2) (uSide f.c f.a)).length ≤ 3 * k + 3 := Nat.le_trans (byE_len _ _) (evTo_len _ _ _)
            generalize byE (evTo fs k 2) (uSide f.c f.a) = L at *
            have hl1 := hgW1.size
            obtain ⟨i0, hi, hz, hi1, hi2⟩ := info_parts info_int
            go_upto_region 9 with fail
            go_wp2_with (at_builtin; refine wpList_pushAt (α := Int) _ rfl (.tmp 45) (.tmp 47) _ rfl lo 3 i0 _ 8 Tryz.underlying22 hi hz hi1 hi2 rfl R.A R.n R.c L rfl hnn.out hos 0 ⟨_, 0, none⟩ 1 1 [(k : Int)] rfl rfl hs1 ?c2 ?c3 ?c4 ?_)
            case c2 => simp; omega
            case c3 => simp [maxLen]; omega
            case c4 => omega
            intro A4 c4 w4 ho4 hG4
            have hG5 := hPut.out _ _ _ ho4 hG4
            have hgW4 := gr_row hgW1 hG4.1 (fun g e => Nat.le_trans hlo2 (hbe.out g e))
            have hg4 := gr_row hg1 hG4.1 (fun g e => Nat.le_trans (by omega) (hbe.out g e))
            have hb4 := hG4.1.block bm (by omega) (fun e => by have := hbe.out bm e.symm; omega)
            clear hPut hs1 hos hnn hg1 hgW1 hrun
            obtain ⟨w5, hrun5, hM5, hq5⟩ := hP w4 ⟨A4, (L ++ [(k : Int)]).length, c4⟩ hb4
            rw [show (L ++ [(k : Int)]).length = L.length + 1 by simp] at hrun5
            have hgW5 := gr_trans hgW4 hq5
            have hg5 := gr_new hg4 hq5 hbw
            replace hG5 := hide (hG5.keep hq5 (fun g e => by injection e; omega))
            replace hM5 := hide hM5
            clear hP hb4 hgW4 hg4
            go_wp2_with fail
            go_roundw
            case rel => exact ⟨2 + 1, _, by omega, by go_num, hg5, hgW5, hM5.out.mono (by omega), hG5.out⟩
            case measure => simp [intOf]
        · have hj3 : j = 3 := by omega
          subst hj3
          go_wp2
          (go_roundw; (case rel => exact ⟨k + 1, m, by omega, by go_num, hg, hgW, hM.out.mono (by omega), by rw [← HN.out]; exact hG.out⟩); (case measure => simp [intOf]; omega))
    · obtain rfl : k = fs.length := by omega
      rw [evTo_all] at hG
      have hR0 := hG.read
      have b4 := gr_cell hgW b3 (by simp; omega)
      clear hG hG0 hM0 hgW3 hgC hgW b3 hlt
      obtain ⟨i0, hi, hz, hi1, hi2⟩ := info_parts info_boolS
      obtain ⟨w7, hrun, hoS, hg7⟩ := run_makeOwn (P := Tryz.prog) wr 99 4 i0 _ false Tryz.underlying99 hi hz hi1 rfl rfl .i64 .i64 fs.length (by rw [hi2]; omega) (by simp [maxLen]; omega)
      clear hi hz hi1 hi2 i0
      rw [← sawL_zero] at hoS
      obtain ⟨gs, hgs⟩ : ∃ g, g = wr.heap.size := ⟨_, rfl⟩
      rw [← hgs] at hrun hoS hR0
      have hbg : bm < gs := by rw [hgs]; exact hM.lt
      have hwg : w.heap.size ≤ gs := by rw [hgs]; exact hg.size
      have hgs1 : gs < w7.heap.size := (hoS.blk_lt (g := gs) rfl).2
      replace hoS := hide (hoS.lower (Nat.zero_le _))
      have hM7 := hide (hM.kept hg7 (by simp))
      have hR7 := hide (hR0.keep hg7 (fun g e => by cases e))
      have hgw7 := hg.t hg7
      clear hgs
      obtain ⟨hi2, hhi⟩ : ∃ x, x = w7.heap.size := ⟨_, rfl⟩
      have hhi1 : hi2 ≤ w7.heap.size := by omega
      have hhi2 : w7.heap.size ≤ hi2 := by omega
      have hgh : gs < hi2 := by omega
      clear hhi
      go_upto_region 13 with fail
      clear hrun
      have b7 := hg7.k b4
      clear b4 hM hR0 hg hg7
      go_wp2_with fail
      have h77 := World.grownBy.refl w7 (some gs)
      go_loopw [10, 60] (fun o i wr => ∃ (i' : Nat) (O : Option Addr) (co : Nat), i' ≤ fs.length ∧ i = .int .i64 i' ∧ o = .slice O (shellsI fs i').length co ∧ OwnI wr hi2 22 O co (shellsI fs i') ∧ Own wr 0 4 (some ⟨gs, 0, none⟩) fs.length (sawL fs i' []) ∧ w7.grownBy wr (some gs) ∧ w.grownBy wr none) (fun _ i _ => fs.length - (intOf i).toNat)
      case atStart => exact ⟨0, none, 0, Nat.zero_le _, rfl, rfl, OwnI.nil _ _ _, hoS.out, h77, hgw7⟩
      case round =>
        clear hoS h77
        obtain ⟨i, O, co, hi, rfl, rfl, hO, hS, hg7, hgw⟩ := hrel
        have b8 := gr_cell hg7 b7 (by simp; omega)
        by_cases hlt : i < fs.length
        · obtain ⟨s0, s1⟩ := saw_cell hS hlt
          rw [saw_one] at s0
          rcases hd : doneF fs i i with _ | _
          · rw [hd] at s0
            have g9 : wr.grownBy (wr.setCell ⟨gs, i, none⟩ (.bool true)) (some gs) := gr_set (World.grownBy.refl _ _) (.inl rfl) _
            have hS9 := saw_put hS hlt
            have hO9 := hO.keep g9 (fun g e => by injection e; omega)
            have hg79 := gr_trans hg7 g9
            have b9 := gr_cell g9 b8 (by simp; omega)
            obtain ⟨W9, hW9⟩ : ∃ x, x = wr.setCell ⟨gs, i, none⟩ (.bool true) := ⟨_, rfl⟩
            go_upto_region 19 with fail
            rw [← hW9]
            rw [← hW9] at g9 hS9 hO9 hg79 b9
            clear hW9 s0 s1 hS hO hg7 hgw b8 g9
            obtain ⟨lo9, hlo9⟩ : ∃ x, x = W9.heap.size := ⟨_, rfl⟩
            have hgl9 : gs < lo9 := by have := hg79.size; omega
            have hil9 : hi2 ≤ lo9 := by have := hg79.size; omega
            have hl9a : W9.heap.size ≤ lo9 := by omega
            have hl9b : lo9 ≤ W9.heap.size := by omega
            have hI0 : GI W9 lo9 gs fs.length fs i (some ⟨W9.heap.size, 0, none⟩) 1 [i] (W9.alloc (.cells #[.int .i64 (i : Int)] 3)) :=
              ⟨Grw.one hlt hd, own_litAt W9 lo9 [.int .i64 (i : Int)] 3 [(i : Int)] _ rfl (by omega) (by simp [maxLen]) (row_ints _ _ _), hS9.pure (gr_alloc (World.grownBy.refl _ _) _), gr_alloc (World.grownBy.refl _ _) _⟩
            clear hS9 hlo9
            replace hO9 := hide hO9
            go_wp2_with fail
            go_loopw [12, 13] (fun o a wr => ∃ (g : List Nat) (A : Option Addr) (c a' : Nat), a' ≤ g.length ∧ a = .int .i64 a' ∧ o = .slice A (gi g).length c ∧ ClG fs g a' ∧ GI W9 lo9 gs fs.length fs i A c g wr) (fun _ a _ => fs.length - (intOf a).toNat)
            case atStart => exact ⟨[i], _, 1, 0, by simp, rfl, rfl, ClG.zero _ _, hI0⟩
            case round =>
              clear hI0
              obtain ⟨g, A4, c4, a, ha, rfl, rfl, hC, hI⟩ := hrel
              have hgl := hI.len
              have hgm : (gi g).length ≤ g.length := by rw [gi_len]; exact Nat.le_refl _
              have hgn : g.length ≤ (gi g).length := by rw [gi_len]; exact Nat.le_refl _
              by_cases hag : a < (gi g).length
              · obtain ⟨x, hx⟩ : ∃ x, g[a]? = some x := ⟨_, List.getElem?_eq_getElem (by omega)⟩
                have hxm : x ∈ g := List.mem_of_getElem? hx
                have hxl : x < fs.length := hI.grw.lt hxm
                obtain ⟨gA, rfl, hca⟩ := hI.cell hag hx
                have b10 := gr_cell hI.gr b9 (by simp; omega)
                have hwr := gr_new hgw7 (gr_trans hg79 hI.gr) hwg
                obtain ⟨gB, oB, cx, rfl, hb0, hb1, rfl, hc⟩ := (hfs.pure hwr).at_ (by decide) hxl
                have v0 : wr.cell? ⟨gB, oB + x * 3, none⟩ = some (.int .i64 fs[x].a) := hc 0 _ rfl
                have v1 : wr.cell? ⟨gB, oB + x * 3 + 1, none⟩ = some (.int .i64 fs[x].b) := hc 1 _ rfl
                have v2 : wr.cell? ⟨gB, oB + x * 3 + 2, none⟩ = some (.int .i64 fs[x].c) := hc 2 _ rfl
                clear hc
                have hokf : Hid (∀ s ∈ sdsOf fs[x], okS s) := fun s hs => hok0.out s (List.mem_flatMap.2 ⟨_, List.getElem_mem hxl, hs⟩)
                have hfx : Hid (fcAt fs x = fs[x]) := by simp [Hid, fcAt, List.getD_eq_getElem?_getD, hxl]
                generalize fs[x] = f at *
                replace hx := hide hx
                go_upto_region 23 with fail
                refine wp_region_tree (fun wx => wr.grownBy wx none) [2, 1, 2, 2, 2, 1, 2, 1, 0, 2] (.bl 0 (.bl 1 (.bl 2 (.bl 3 (.bl 4 (.bl 5 (.bl 6 (.bl 7 (.bl 9 (.ef 8 .done)))))))))) (by kernel_rfl) (by kernel_rfl) (gr_drew (World.grownBy.refl _ _)) ?_
                refine tree_p rfl rfl rfl rfl _ rfl (by simp) (fun K hK => ?_)
                apply Exists.intro
                refine ⟨fun wq K' hK' => ?_, ?_⟩
                · go_wp2_with fail
                  exact hK'
                go_simp
                refine hK _ ?_
                clear hK K
                refine tree_b rfl rfl rfl rfl _ rfl (by simp) (fun K hK => ?_)
                apply Exists.intro
                refine ⟨fun wq hq K' hK' => ?_, ?_⟩
                · have q1 := hq.k b10
                  have q2 := hq.k hca
                  have q3 := hq.k v0
                  have q4 := hq.k v1
                  have q5 := hq.k v2
                  go_wp2_with fail
                  exact hK'
                go_simp
                refine hK _ ?_
                clear hK K
                refine tree_p rfl rfl rfl rfl _ rfl (by simp) (fun K hK => ?_)
                apply Exists.intro
                refine ⟨fun wq K' hK' => ?_, ?_⟩
                · go_wp2_with fail
                  exact hK'
                go_simp
                refine hK _ ?_
                clear hK K
                refine tree_p rfl rfl rfl rfl _ rfl (by simp) (fun K hK => ?_)
                apply Exists.intro
                refine ⟨fun wq K' hK' => ?_, ?_⟩
                · go_wp2_with fail
                  exact hK'
                go_simp
                refine hK _ ?_
                clear hK K
                refine tree_p rfl rfl rfl rfl _ rfl (by simp) (fun K hK => ?_)
                apply Exists.intro
                refine ⟨fun wq K' hK' => ?_, ?_⟩
                · go_wp2_with fail
                  exact hK'
                go_simp
                refine hK _ ?_
                clear hK K
                refine tree_b rfl rfl rfl rfl _ rfl (by simp) (fun K hK => ?_)
                apply Exists.intro
                refine ⟨fun wq hq K' hK' => ?_, ?_⟩
                · have q1 := hq.k b10
                  have q2 := hq.k hca
                  have q3 := hq.k v0
                  have q4 := hq.k v1
                  have q5 := hq.k v2
                  go_wp2_with fail
                  exact hK'
                go_simp
                refine hK _ ?_
                clear hK K
                refine tree_p rfl rfl rfl rfl _ rfl (by simp) (fun K hK => ?_)
                apply Exists.intro
                refine ⟨fun wq K' hK' => ?_, ?_⟩
                · go_wp2_with fail
                  exact hK'
                go_simp
                refine hK _ ?_
                clear hK K
                refine tree_b rfl rfl rfl rfl _ rfl (by simp) (fun K hK => ?_)
                apply Exists.intro
                refine ⟨fun wq hq K' hK' => ?_, ?_⟩
                · have q1 := hq.k b10
                  have q2 := hq.k hca
                  have q3 := hq.k v0
                  have q4 := hq.k v1
                  have q5 := hq.k v2
                  go_wp2_with fail
                  exact hK'
                go_simp
                refine hK _ ?_
                clear hK K
                refine tree_p rfl rfl rfl rfl _ rfl (by simp) (fun K hK => ?_)
                apply Exists.intro
                refine ⟨fun wq K' hK' => ?_, ?_⟩
                · go_wp2_with fail
                  exact hK'
                go_simp
                refine hK _ ?_
                clear hK K
                refine tree_e0 (by kernel_rfl) rfl rfl (fun K hK => ?_)
                go_wp2_with fail
                refine (sides_any f _).mono ?_
                rintro e w2 ⟨rfl, hg2⟩
                have hI2 := hI.pure ((gr_drew (World.grownBy.refl wr none)).t hg2)
                go_wp2_with fail
                try go_simp
                refine hK _ _ trivial ?_
                clear hK K
                refine tree_done ?_
                go_wp2_with fail
                clear v0 v1 v2 hb0 hb1 hca hI b10
                have hC0 := ClF.zero fs g x
                go_loopw [12, 87] (fun o j wx => ∃ (g : List Nat) (A : Option Addr) (c j' : Nat), j' ≤ 3 ∧ j = .int .i64 j' ∧ o = .slice A (gi g).length c ∧ a < g.length ∧ Hid (g[a]? = some x) ∧ ClG fs g a ∧ ClF fs g x j' ∧ GI W9 lo9 gs fs.length fs i A c g wx) (fun _ j _ => 3 - (intOf j).toNat)
                case atStart => exact ⟨g, _, c4, 0, by omega, rfl, rfl, by omega, hx, hC, hC0, hI2⟩
                case round =>
                  clear hI2 hC0 hC hx hgl hgm hgn hag hxm ha
                  obtain ⟨g, A4, c4, j, hj, rfl, rfl, hal, hx, hC, hCF, hI⟩ := hrel
                  by_cases hjt : j < 3
                  · obtain rfl | rfl | rfl : j = 0 ∨ j = 1 ∨ j = 2 := by omega
                    · have hix := index3_0 wr f.a f.b f.b f.c f.c f.a
                      have hok1 : Hid (okS (uSide f.a f.b)) := okS_u (hokf.out ⟨f.a, f.b⟩ (by simp [sdsOf]))
                      have hsk : Hid (uSide f.a f.b ∈ keysF (fcAt fs x)) := by rw [Hid, hfx.out]; simp [keysF]
                      have hCJ : Hid (∀ g : List Nat, ClF fs g x 0 → ClE fs g (uSide f.a f.b) (byE (evF fs) (uSide f.a f.b)).length → ClF fs g x (0 + 1)) := fun g h1 h2 => by
                        have e : (keysF (fcAt fs x))[0]'(by simp [keysF]) = uSide f.a f.b := by simp only [hfx.out]; rfl
                        exact h1.next (by simp [keysF]) (by rw [e]; exact h2)
                      have hM9 := hide (hM7.out.kept (gr_trans hg79 hI.gr) (by simp; omega))
                      have hR9 := hR7.out.keep (gr_trans hg79 hI.gr) (fun g e => by injection e; omega)
                      have hRn := hR9.n (uSide f.a f.b)
                      have hRs := hR9.sl (uSide f.a f.b)
                      have hRl : Hid (∀ g, blk (rawOf m (uSide f.a f.b)).A = some g → g < gs) := hR9.lt (uSide f.a f.b)
                      obtain ⟨AR, nR, cR, hR⟩ : ∃ AR nR cR, rawOf m (uSide f.a f.b) = ⟨AR, nR, cR⟩ := ⟨_, _, _, rfl⟩
                      rw [hR] at hRn hRs hRl
                      have hRn : nR = _ := hRn
                      subst hRn
                      replace hR := hide hR
                      have hent : Hid (∀ q (hq : q < (byE (evF fs) (uSide f.a f.b)).length), ∃ k : Nat, (byE (evF fs) (uSide f.a f.b))[q] = (k : Int) ∧ k < fs.length ∧ adjF fs x k) := fun q hq => by
                        obtain ⟨k, h1, h2, h3⟩ := ent_nat hq
                        exact ⟨k, h1, h2, (ent_adj hsk.out h3).2⟩
                      have hCE : Hid (∀ (g : List Nat) (q k : Nat), ClE fs g (uSide f.a f.b) q → ∀ hq : q < (byE (evF fs) (uSide f.a f.b)).length, (byE (evF fs) (uSide f.a f.b))[q] = (k : Int) → k ∈ g → ClE fs g (uSide f.a f.b) (q + 1)) := fun g q k h hq hk hm => h.next hq hk hm
                      have hmL := hRs.1
                      unfold maxLen at hmL
                      obtain ⟨L, hL⟩ : ∃ L, L = byE (evF fs) (uSide f.a f.b) := ⟨_, rfl⟩
                      rw [← hL] at hRs hR hent hCE hCJ hmL
                      replace hL := hide hL
                      have hxa := gr_alloc (World.grownBy.refl wr none) (.cells #[.int .i64 (f.a), .int .i64 (f.b)] 63)
                      have hMx := hide (hM9.out.kept hxa (by simp))
                      have hIx := hI.pure hxa
                      have q0 : (wr.alloc (.cells #[.int .i64 (f.a), .int .i64 (f.b)] 63)).cell? ⟨wr.heap.size, 0, none⟩ = some (.int .i64 (f.a)) := by go_simp
                      have q1 : (wr.alloc (.cells #[.int .i64 (f.a), .int .i64 (f.b)] 63)).cell? ⟨wr.heap.size, 1, none⟩ = some (.int .i64 (f.b)) := by go_simp
                      clear hM9 hRs hR9 hsk hI
                      go_upto_region 26 with fail
                      generalize wr.alloc (.cells #[.int .i64 (f.a), .int .i64 (f.b)] 63) = WX at *
                      go_wp2_with (at_lookup; refine wpList_lookup_G _ rfl (.tmp 90) (.tmp 101) rfl bm _ m rfl hMx.out (uSide f.a f.b) rfl hok1.out _ hR.out ?_)
                      clear q0 q1 hMx hix hok1 hxa
                      have hCZ := ClE.zero fs g (uSide f.a f.b)
                      go_loopw [12, 104] (fun o q wr => ∃ (g : List Nat) (A : Option Addr) (c q' : Nat), q' ≤ L.length ∧ q = .int .i64 q' ∧ o = .slice A (gi g).length c ∧ a < g.length ∧ Hid (g[a]? = some x) ∧ ClG fs g a ∧ ClF fs g x 0 ∧ ClE fs g (uSide f.a f.b) q' ∧ GI W9 lo9 gs fs.length fs i A c g wr) (fun _ q _ => L.length - (intOf q).toNat)
                      case atStart => exact ⟨g, A4, c4, 0, by omega, rfl, rfl, hal, hx, hC, hCF, hCZ, hIx⟩
                      case round =>
                        clear hIx hCZ hCF hC hx hal
                        obtain ⟨g, A4, c4, q, hq, rfl, rfl, hal, hx, hC, hCF, hCQ, hI⟩ := hrel
                        have hgl := hI.len
                        by_cases hql : q < L.length
                        · obtain ⟨k, hk1, hk2, hk3⟩ := hent.out q hql
                          have hRw : Sl wr 0 AR L := by
                            have h := (hR7.out.keep (gr_trans hg79 hI.gr) (fun g e => by injection e; omega)).sl (uSide f.a f.b)
                            rw [hR.out, ← hL.out] at h
                            exact h
                          obtain ⟨gL, oL, c1, rfl, hl0, hl1, rfl, hc⟩ := hRw.at_ (by decide) hql
                          have vL : wr.cell? ⟨gL, oL + q, none⟩ = some (.int .i64 (k : Int)) := by
                            have h := hc 0 _ rfl
                            rw [hk1] at h
                            rwa [show Enc.sz Int = 1 from rfl, Nat.mul_one, Nat.add_zero] at h
                          clear hc hRw
                          have hxm : x ∈ g := List.mem_of_getElem? hx.out
                          obtain ⟨s0, s1⟩ := saw_cell hI.sw hk2
                          rw [hI.grw.seen hxm hk2 hk3] at s0
                          by_cases hin : k ∈ g
                          · rw [decide_eq_true hin] at s0
                            have hC1 := hCE.out g q k hCQ hql hk1 hin
                            clear hk1 hin
                            go_wp2_with fail
                            (go_roundw; (case rel => exact ⟨g, A4, c4, q + 1, by omega, by go_num, rfl, hal, hx, hC, hCF, hC1, hI⟩); (case measure => simp [intOf]; omega))
                          · rw [decide_eq_false hin] at s0
                            have hC1 := hCE.out (g ++ [k]) q k hCQ.snoc hql hk1 (by simp)
                            have hx1 : Hid ((g ++ [k])[a]? = some x) := by rw [Hid, List.getElem?_append_left hal]; exact hx.out
                            have hC2 := hC.snoc (k := k) (by omega)
                            have hCF2 := hCF.snoc (k := k)
                            have ho5 := hI.ow.keep (gr_set (World.grownBy.refl wr (some gs)) (p := ⟨gs, k, none⟩) (.inl rfl) (.bool true)) (fun g e => by injection e; omega)
                            have hsn := fun A' c' wy ho hG => hI.snoc hgl9 hl9a hxm hk2 hk3 hin (gr_alloc (World.grownBy.refl _ none) (.cells #[.int .i64 (k : Int)] 3)) (A' := A') (c' := c') (wy := wy) ho hG
                            have hsz : lo9 ≤ wr.heap.size := Nat.le_trans hl9b hI.gr.size
                            have hln : (gi (g ++ [k])).length ≤ (gi g).length + 1 := by rw [gi_snoc]; simp
                            have hln2 : (gi g).length + 1 ≤ (gi (g ++ [k])).length := by rw [gi_snoc]; simp
                            clear hk1 hin hx
                            replace hsn := hide hsn
                            obtain ⟨i0, hi0, hz, hi1, hi3⟩ := info_parts info_int
                            go_wp2_with (at_builtin; refine wpList_pushAt (α := Int) _ rfl (.tmp 116) (.tmp 118) _ rfl lo9 3 i0 _ 8 Tryz.underlying22 hi0 hz hi1 hi3 rfl A4 _ c4 (gi g) rfl rfl (by exact ho5.pure (gr_alloc (World.grownBy.refl _ _) _)) 0 ⟨_, 0, none⟩ 1 1 [(k : Int)] rfl rfl (by exact sl_int1 _ _ _ _ (by first | rfl | simp)) ?c2 ?c3 ?c4 ?_)
                            case c2 => simp; omega
                            case c3 => simp [maxLen]; omega
                            case c4 => simp; omega
                            intro A6 c6 w6 ho6 hG6
                            have hI6 := hsn.out _ _ _ ho6 hG6
                            have hln3 : (gi g).length + 1 = (gi (g ++ [k])).length := by omega
                            clear ho5 hsn ho6 hG6
                            replace hln3 := hide hln3
                            go_wp2_with fail
                            (go_roundw; (case rel => exact ⟨g ++ [k], A6, c6, q + 1, by omega, by go_num, by rw [hln3.out], by simp; omega, hx1, hC2, hCF2, hC1, hI6⟩); (case measure => simp [intOf]; omega))
                        · have hC1 := hCJ.out g hCF (by rw [show L.length = q by omega]; exact hCQ)
                          go_wp2_with fail
                          go_roundw
                          case rel => exact ⟨g, A4, c4, 0 + 1, by omega, by go_num, rfl, hal, hx, hC, hC1, hI⟩
                          case measure => simp [intOf]
                    · have hix := index3_1 wr f.a f.b f.b f.c f.c f.a
                      have hok1 : Hid (okS (uSide f.b f.c)) := okS_u (hokf.out ⟨f.b, f.c⟩ (by simp [sdsOf]))
                      have hsk : Hid (uSide f.b f.c ∈ keysF (fcAt fs x)) := by rw [Hid, hfx.out]; simp [keysF]
                      have hCJ : Hid (∀ g : List Nat, ClF fs g x 1 → ClE fs g (uSide f.b f.c) (byE (evF fs) (uSide f.b f.c)).length → ClF fs g x (1 + 1)) := fun g h1 h2 => by
                        have e : (keysF (fcAt fs x))[1]'(by simp [keysF]) = uSide f.b f.c := by simp only [hfx.out]; rfl
                        exact h1.next (by simp [keysF]) (by rw [e]; exact h2)
                      have hM9 := hide (hM7.out.kept (gr_trans hg79 hI.gr) (by simp; omega))
                      have hR9 := hR7.out.keep (gr_trans hg79 hI.gr) (fun g e => by injection e; omega)
                      have hRn := hR9.n (uSide f.b f.c)
                      have hRs := hR9.sl (uSide f.b f.c)
                      have hRl : Hid (∀ g, blk (rawOf m (uSide f.b f.c)).A = some g → g < gs) := hR9.lt (uSide f.b f.c)
                      obtain ⟨AR, nR, cR, hR⟩ : ∃ AR nR cR, rawOf m (uSide f.b f.c) = ⟨AR, nR, cR⟩ := ⟨_, _, _, rfl⟩
                      rw [hR] at hRn hRs hRl
                      have hRn : nR = _ := hRn
                      subst hRn
                      replace hR := hide hR
                      have hent : Hid (∀ q (hq : q < (byE (evF fs) (uSide f.b f.c)).length), ∃ k : Nat, (byE (evF fs) (uSide f.b f.c))[q] = (k : Int) ∧ k < fs.length ∧ adjF fs x k) := fun q hq => by
                        obtain ⟨k, h1, h2, h3⟩ := ent_nat hq
                        exact ⟨k, h1, h2, (ent_adj hsk.out h3).2⟩
                      have hCE : Hid (∀ (g : List Nat) (q k : Nat), ClE fs g (uSide f.b f.c) q → ∀ hq : q < (byE (evF fs) (uSide f.b f.c)).length, (byE (evF fs) (uSide f.b f.c))[q] = (k : Int) → k ∈ g → ClE fs g (uSide f.b f.c) (q + 1)) := fun g q k h hq hk hm => h.next hq hk hm
                      have hmL := hRs.1
                      unfold maxLen at hmL
                      obtain ⟨L, hL⟩ : ∃ L, L = byE (evF fs) (uSide f.b f.c) := ⟨_, rfl⟩
                      rw [← hL] at hRs hR hent hCE hCJ hmL
                      replace hL := hide hL
                      have hxa := gr_alloc (World.grownBy.refl wr none) (.cells #[.int .i64 (f.b), .int .i64 (f.c)] 63)
                      have hMx := hide (hM9.out.kept hxa (by simp))
                      have hIx := hI.pure hxa
                      have q0 : (wr.alloc (.cells #[.int .i64 (f.b), .int .i64 (f.c)] 63)).cell? ⟨wr.heap.size, 0, none⟩ = some (.int .i64 (f.b)) := by go_simp
                      have q1 : (wr.alloc (.cells #[.int .i64 (f.b), .int .i64 (f.c)] 63)).cell? ⟨wr.heap.size, 1, none⟩ = some (.int .i64 (f.c)) := by go_simp
                      clear hM9 hRs hR9 hsk hI
                      go_upto_region 26 with fail
                      generalize wr.alloc (.cells #[.int .i64 (f.b), .int .i64 (f.c)] 63) = WX at *
                      go_wp2_with (at_lookup; refine wpList_lookup_G _ rfl (.tmp 90) (.tmp 101) rfl bm _ m rfl hMx.out (uSide f.b f.c) rfl hok1.out _ hR.out ?_)
                      clear q0 q1 hMx hix hok1 hxa
                      have hCZ := ClE.zero fs g (uSide f.b f.c)
                      go_loopw [12, 104] (fun o q wr => ∃ (g : List Nat) (A : Option Addr) (c q' : Nat), q' ≤ L.length ∧ q = .int .i64 q' ∧ o = .slice A (gi g).length c ∧ a < g.length ∧ Hid (g[a]? = some x) ∧ ClG fs g a ∧ ClF fs g x 1 ∧ ClE fs g (uSide f.b f.c) q' ∧ GI W9 lo9 gs fs.length fs i A c g wr) (fun _ q _ => L.length - (intOf q).toNat)
                      case atStart => exact ⟨g, A4, c4, 0, by omega, rfl, rfl, hal, hx, hC, hCF, hCZ, hIx⟩
                      case round =>
                        clear hIx hCZ hCF hC hx hal
                        obtain ⟨g, A4, c4, q, hq, rfl, rfl, hal, hx, hC, hCF, hCQ, hI⟩ := hrel
                        have hgl := hI.len
                        by_cases hql : q < L.length
                        · obtain ⟨k, hk1, hk2, hk3⟩ := hent.out q hql
                          have hRw : Sl wr 0 AR L := by
                            have h := (hR7.out.keep (gr_trans hg79 hI.gr) (fun g e => by injection e; omega)).sl (uSide f.b f.c)
                            rw [hR.out, ← hL.out] at h
                            exact h
                          obtain ⟨gL, oL, c1, rfl, hl0, hl1, rfl, hc⟩ := hRw.at_ (by decide) hql
                          have vL : wr.cell? ⟨gL, oL + q, none⟩ = some (.int .i64 (k : Int)) := by
                            have h := hc 0 _ rfl
                            rw [hk1] at h
                            rwa [show Enc.sz Int = 1 from rfl, Nat.mul_one, Nat.add_zero] at h
                          clear hc hRw
                          have hxm : x ∈ g := List.mem_of_getElem? hx.out
                          obtain ⟨s0, s1⟩ := saw_cell hI.sw hk2
                          rw [hI.grw.seen hxm hk2 hk3] at s0
                          by_cases hin : k ∈ g
                          · rw [decide_eq_true hin] at s0
                            have hC1 := hCE.out g q k hCQ hql hk1 hin
                            clear hk1 hin
                            go_wp2_with fail
                            (go_roundw; (case rel => exact ⟨g, A4, c4, q + 1, by omega, by go_num, rfl, hal, hx, hC, hCF, hC1, hI⟩); (case measure => simp [intOf]; omega))
                          · rw [decide_eq_false hin] at s0
                            have hC1 := hCE.out (g ++ [k]) q k hCQ.snoc hql hk1 (by simp)
                            have hx1 : Hid ((g ++ [k])[a]? = some x) := by rw [Hid, List.getElem?_append_left hal]; exact hx.out
                            have hC2 := hC.snoc (k := k) (by omega)
                            have hCF2 := hCF.snoc (k := k)
                            have ho5 := hI.ow.keep (gr_set (World.grownBy.refl wr (some gs)) (p := ⟨gs, k, none⟩) (.inl rfl) (.bool true)) (fun g e => by injection e; omega)
                            have hsn := fun A' c' wy ho hG => hI.snoc hgl9 hl9a hxm hk2 hk3 hin (gr_alloc (World.grownBy.refl _ none) (.cells #[.int .i64 (k : Int)] 3)) (A' := A') (c' := c') (wy := wy) ho hG
                            have hsz : lo9 ≤ wr.heap.size := Nat.le_trans hl9b hI.gr.size
                            have hln : (gi (g ++ [k])).length ≤ (gi g).length + 1 := by rw [gi_snoc]; simp
                            have hln2 : (gi g).length + 1 ≤ (gi (g ++ [k])).length := by rw [gi_snoc]; simp
                            clear hk1 hin hx
                            replace hsn := hide hsn
                            obtain ⟨i0, hi0, hz, hi1, hi3⟩ := info_parts info_int
                            go_wp2_with (at_builtin; refine wpList_pushAt (α := Int) _ rfl (.tmp 116) (.tmp 118) _ rfl lo9 3 i0 _ 8 Tryz.underlying22 hi0 hz hi1 hi3 rfl A4 _ c4 (gi g) rfl rfl (by exact ho5.pure (gr_alloc (World.grownBy.refl _ _) _)) 0 ⟨_, 0, none⟩ 1 1 [(k : Int)] rfl rfl (by exact sl_int1 _ _ _ _ (by first | rfl | simp)) ?c2 ?c3 ?c4 ?_)
                            case c2 => simp; omega
                            case c3 => simp [maxLen]; omega
                            case c4 => simp; omega
                            intro A6 c6 w6 ho6 hG6
                            have hI6 := hsn.out _ _ _ ho6 hG6
                            have hln3 : (gi g).length + 1 = (gi (g ++ [k])).length := by omega
                            clear ho5 hsn ho6 hG6
                            replace hln3 := hide hln3
                            go_wp2_with fail
                            (go_roundw; (case rel => exact ⟨g ++ [k], A6, c6, q + 1, by omega, by go_num, by rw [hln3.out], by simp; omega, hx1, hC2, hCF2, hC1, hI6⟩); (case measure => simp [intOf]; omega))
                        · have hC1 := hCJ.out g hCF (by rw [show L.length = q by omega]; exact hCQ)
                          go_wp2_with fail
                          go_roundw
                          case rel => exact ⟨g, A4, c4, 1 + 1, by omega, by go_num, rfl, hal, hx, hC, hC1, hI⟩
                          case measure => simp [intOf]
                    · have hix := index3_2 wr f.a f.b f.b f.c f.c f.a
                      have hok1 : Hid (okS (uSide f.c f.a)) := okS_u (hokf.out ⟨f.c, f.a⟩ (by simp [sdsOf]))
                      have hsk : Hid (uSide f.c f.a ∈ keysF (fcAt fs x)) := by rw [Hid, hfx.out]; simp [keysF]
                      have hCJ : Hid (∀ g : List Nat, ClF fs g x 2 → ClE fs g (uSide f.c f.a) (byE (evF fs) (uSide f.c f.a)).length → ClF fs g x (2 + 1)) := fun g h1 h2 => by
                        have e : (keysF (fcAt fs x))[2]'(by simp [keysF]) = uSide f.c f.a := by simp only [hfx.out]; rfl
                        exact h1.next (by simp [keysF]) (by rw [e]; exact h2)
                      have hM9 := hide (hM7.out.kept (gr_trans hg79 hI.gr) (by simp; omega))
                      have hR9 := hR7.out.keep (gr_trans hg79 hI.gr) (fun g e => by injection e; omega)
                      have hRn := hR9.n (uSide f.c f.a)
                      have hRs := hR9.sl (uSide f.c f.a)
                      have hRl : Hid (∀ g, blk (rawOf m (uSide f.c f.a)).A = some g → g < gs) := hR9.lt (uSide f.c f.a)
                      obtain ⟨AR, nR, cR, hR⟩ : ∃ AR nR cR, rawOf m (uSide f.c f.a) = ⟨AR, nR, cR⟩ := ⟨_, _, _, rfl⟩
                      rw [hR] at hRn hRs hRl
                      have hRn : nR = _ := hRn
                      subst hRn
                      replace hR := hide hR
                      have hent : Hid (∀ q (hq : q < (byE (evF fs) (uSide f.c f.a)).length), ∃ k : Nat, (byE (evF fs) (uSide f.c f.a))[q] = (k : Int) ∧ k < fs.length ∧ adjF fs x k) := fun q hq => by
                        obtain ⟨k, h1, h2, h3⟩ := ent_nat hq
                        exact ⟨k, h1, h2, (ent_adj hsk.out h3).2⟩
                      have hCE : Hid (∀ (g : List Nat) (q k : Nat), ClE fs g (uSide f.c f.a) q → ∀ hq : q < (byE (evF fs) (uSide f.c f.a)).length, (byE (evF fs) (uSide f.c f.a))[q] = (k : Int) → k ∈ g → ClE fs g (uSide f.c f.a) (q + 1)) := fun g q k h hq hk hm => h.next hq hk hm
                      have hmL := hRs.1
                      unfold maxLen at hmL
                      obtain ⟨L, hL⟩ : ∃ L, L = byE (evF fs) (uSide f.c f.a) := ⟨_, rfl⟩
                      rw [← hL] at hRs hR hent hCE hCJ hmL
                      replace hL := hide hL
                      have hxa := gr_alloc (World.grownBy.refl wr none) (.cells #[.int .i64 (f.c), .int .i64 (f.a)] 63)
                      have hMx := hide (hM9.out.kept hxa (by simp))
                      have hIx := hI.pure hxa
                      have q0 : (wr.alloc (.cells #[.int .i64 (f.c), .int .i64 (f.a)] 63)).cell? ⟨wr.heap.size, 0, none⟩ = some (.int .i64 (f.c)) := by go_simp
                      have q1 : (wr.alloc (.cells #[.int .i64 (f.c), .int .i64 (f.a)] 63)).cell? ⟨wr.heap.size, 1, none⟩ = some (.int .i64 (f.a)) := by go_simp
                      clear hM9 hRs hR9 hsk hI
                      go_upto_region 26 with fail
                      generalize wr.alloc (.cells #[.int .i64 (f.c), .int .i64 (f.a)] 63) = WX at *
                      go_wp2_with (at_lookup; refine wpList_lookup_G _ rfl (.tmp 90) (.tmp 101) rfl bm _ m rfl hMx.out (uSide f.c f.a) rfl hok1.out _ hR.out ?_)
                      clear q0 q1 hMx hix hok1 hxa
                      have hCZ := ClE.zero fs g (uSide f.c f.a)
                      go_loopw [12, 104] (fun o q wr => ∃ (g : List Nat) (A : Option Addr) (c q' : Nat), q' ≤ L.length ∧ q = .int .i64 q' ∧ o = .slice A (gi g).length c ∧ a < g.length ∧ Hid (g[a]? = some x) ∧ ClG fs g a ∧ ClF fs g x 2 ∧ ClE fs g (uSide f.c f.a) q' ∧ GI W9 lo9 gs fs.length fs i A c g wr) (fun _ q _ => L.length - (intOf q).toNat)
                      case atStart => exact ⟨g, A4, c4, 0, by omega, rfl, rfl, hal, hx, hC, hCF, hCZ, hIx⟩
                      case round =>
                        clear hIx hCZ hCF hC hx hal
                        obtain ⟨g, A4, c4, q, hq, rfl, rfl, hal, hx, hC, hCF, hCQ, hI⟩ := hrel
                        have hgl := hI.len
                        by_cases hql : q < L.length
                        · obtain ⟨k, hk1, hk2, hk3⟩ := hent.out q hql
                          have hRw : Sl wr 0 AR L := by
                            have h := (hR7.out.keep (gr_trans hg79 hI.gr) (fun g e => by injection e; omega)).sl (uSide f.c f.a)
                            rw [hR.out, ← hL.out] at h
                            exact h
                          obtain ⟨gL, oL, c1, rfl, hl0, hl1, rfl, hc⟩ := hRw.at_ (by decide) hql
                          have vL : wr.cell? ⟨gL, oL + q, none⟩ = some (.int .i64 (k : Int)) := by
                            have h := hc 0 _ rfl
                            rw [hk1] at h
                            rwa [show Enc.sz Int = 1 from rfl, Nat.mul_one, Nat.add_zero] at h
                          clear hc hRw
                          have hxm : x ∈ g := List.mem_of_getElem? hx.out
                          obtain ⟨s0, s1⟩ := saw_cell hI.sw hk2
                          rw [hI.grw.seen hxm hk2 hk3] at s0
                          by_cases hin : k ∈ g
                          · rw [decide_eq_true hin] at s0
                            have hC1 := hCE.out g q k hCQ hql hk1 hin
                            clear hk1 hin
                            go_wp2_with fail
                            (go_roundw; (case rel => exact ⟨g, A4, c4, q + 1, by omega, by go_num, rfl, hal, hx, hC, hCF, hC1, hI⟩); (case measure => simp [intOf]; omega))
                          · rw [decide_eq_false hin] at s0
                            have hC1 := hCE.out (g ++ [k]) q k hCQ.snoc hql hk1 (by simp)
                            have hx1 : Hid ((g ++ [k])[a]? = some x) := by rw [Hid, List.getElem?_append_left hal]; exact hx.out
                            have hC2 := hC.snoc (k := k) (by omega)
                            have hCF2 := hCF.snoc (k := k)
                            have ho5 := hI.ow.keep (gr_set (World.grownBy.refl wr (some gs)) (p := ⟨gs, k, none⟩) (.inl rfl) (.bool true)) (fun g e => by injection e; omega)
                            have hsn := fun A' c' wy ho hG => hI.snoc hgl9 hl9a hxm hk2 hk3 hin (gr_alloc (World.grownBy.refl _ none) (.cells #[.int .i64 (k : Int)] 3)) (A' := A') (c' := c') (wy := wy) ho hG
                            have hsz : lo9 ≤ wr.heap.size := Nat.le_trans hl9b hI.gr.size
                            have hln : (gi (g ++ [k])).length ≤ (gi g).length + 1 := by rw [gi_snoc]; simp
                            have hln2 : (gi g).length + 1 ≤ (gi (g ++ [k])).length := by rw [gi_snoc]; simp
                            clear hk1 hin hx
                            replace hsn := hide hsn
                            obtain ⟨i0, hi0, hz, hi1, hi3⟩ := info_parts info_int
                            go_wp2_with (at_builtin; refine wpList_pushAt (α := Int) _ rfl (.tmp 116) (.tmp 118) _ rfl lo9 3 i0 _ 8 Tryz.underlying22 hi0 hz hi1 hi3 rfl A4 _ c4 (gi g) rfl rfl (by exact ho5.pure (gr_alloc (World.grownBy.refl _ _) _)) 0 ⟨_, 0, none⟩ 1 1 [(k : Int)] rfl rfl (by exact sl_int1 _ _ _ _ (by first | rfl | simp)) ?c2 ?c3 ?c4 ?_)
                            case c2 => simp; omega
                            case c3 => simp [maxLen]; omega
                            case c4 => simp; omega
                            intro A6 c6 w6 ho6 hG6
                            have hI6 := hsn.out _ _ _ ho6 hG6
                            have hln3 : (gi g).length + 1 = (gi (g ++ [k])).length := by omega
                            clear ho5 hsn ho6 hG6
                            replace hln3 := hide hln3
                            go_wp2_with fail
                            (go_roundw; (case rel => exact ⟨g ++ [k], A6, c6, q + 1, by omega, by go_num, by rw [hln3.out], by simp; omega, hx1, hC2, hCF2, hC1, hI6⟩); (case measure => simp [intOf]; omega))
                        · have hC1 := hCJ.out g hCF (by rw [show L.length = q by omega]; exact hCQ)
                          go_wp2_with fail
                          go_roundw
                          case rel => exact ⟨g, A4, c4, 2 + 1, by omega, by go_num, rfl, hal, hx, hC, hC1, hI⟩
                          case measure => simp [intOf]
                  · have hj3 : j = 3 := by omega
                    subst hj3
                    have hax : g[a] = x := by have h := hx.out; rw [List.getElem?_eq_getElem hal] at h; injection h
                    have hC1 := hC.next hal (by rw [hax]; exact hCF)
                    clear hax
                    have hgl := hI.len
                    rw [gi_len] at hgl
                    go_wp2_with fail
                    (go_roundw; (case rel => exact ⟨g, A4, c4, a + 1, by omega, by go_num, rfl, hC1, hI⟩); (case measure => simp [intOf]; omega))
              · have hae : a = g.length := by omega
                subst hae
                have hcl := fun (l : List Int) hp hs => hI.grw.sorted hC (l := l) hp hs
                have hnx := hI.grw.next hC
                obtain ⟨gA, rfl, hgA⟩ := hI.addr
                have hsrt := hide (sortInts_any gA c4 lo9 (gi g) wr hI.ow (by omega))
                go_upto_region 34 with fail
                go_wp2_with fail
                refine hsrt.out.mono ?_
                rintro e w6 ⟨rfl, l', hp, hs, ho6, hg6⟩
                clear hsrt
                have hl6 := hp.length_eq
                have e6 := hcl _ hp hs
                rw [e6] at ho6 hl6
                clear e6 hp hs hcl
                obtain ⟨raws0, hOr0, hOa0⟩ := hO9.out
                have hOA : Hid (∀ b, blk O = some b → hi2 ≤ b ∧ b < lo9) := fun b e => ⟨(hOr0.blk_lt e).1, Nat.lt_of_lt_of_le (hOr0.blk_lt e).2 hl9a⟩
                clear hOr0 hOa0
                have hO6 := hO9.out.keep (gr_new hI.gr hg6 (by omega)) (fun g e => by injection e; omega)
                have hS6 := hI.sw.ne hg6 (fun b hb e => by have h1 : gs = b := by simpa [blk] using hb
                                                           injection e; omega)
                rw [hnx] at hS6
                clear hnx
                have hg76 := gr_new (gr_trans hg79 hI.gr) hg6 (by omega)
                obtain ⟨raws, hOr, hOa⟩ := hO6
                have hrl : Hid ((shellsI fs i).length = raws.length) := hOa.len.symm
                have hrn : raws.length ≤ 1000 := by have h1 := hOa.len; have h2 := shellsI_len fs i; omega
                have hlN : Hid (raws.length + 1 = (shellsI fs (i + 1)).length) := by rw [Hid, shellsI_new hd, List.length_append, ← hOa.len]; rfl
                have hal6 := gr_alloc (World.grownBy.refl w6 none) (.cells #[.slice (some ⟨gA, 0, none⟩) (gi g).length c4] 22)
                have hNew : NOkI (w6.alloc (.cells #[.slice (some ⟨gA, 0, none⟩) (gi g).length c4] 22)) hi2 O ⟨some ⟨gA, 0, none⟩, (gi g).length, c4⟩ (gi (compF fs i)) := by
                  have hc6 := ho6.cap
                  have hb6 := (ho6.blk_lt (g := gA) rfl).2
                  refine NOkI.gr ⟨⟨⟨hl6.symm, by rw [← hl6]; exact hc6, ho6.sl.mono hil9, fun b hb => ?_⟩, fun b hb e => ?_⟩, ThawI.own ho6⟩ hal6 (fun _ _ e => by cases e)
                  · have h1 : gA = b := by simpa [blk] using hb
                    omega
                  · have h1 : gA = b := by simpa [blk, NestOf.adr] using hb
                    have := hOA.out b e
                    omega
                replace hl6 := hide hl6
                replace hNew := hide hNew
                replace hOa := grNI hOa hal6
                obtain ⟨i0, hi0, hz, hi1, hi3⟩ := info_parts info_intsS
                go_wp2_with (at_builtin; refine wpList_pushAt (α := RawS) _ rfl (.tmp 124) (.tmp 126) _ rfl hi2 22 i0 _ 24 Tryz.underlying41 hi0 hz hi1 hi3 rfl O _ co raws rfl hrl.out (by exact hOr.pure hal6) 0 ⟨_, 0, none⟩ 1 1 [⟨some ⟨gA, 0, none⟩, (gi g).length, c4⟩] rfl rfl (by exact sl_oneAt _ 0 [.slice (some ⟨gA, 0, none⟩) (gi g).length c4] _ _ _ (by first | rfl | simp) (Nat.zero_le _) rfl) ?c2 ?c3 ?c4 ?_)
                case c2 => simp; omega
                case c3 => simp [maxLen]; omega
                case c4 => have := hg76.size; simp; omega
                intro A8 c8 w8 hO8 hG8
                have hO9' := OwnI.push hOa hO8 hG8 hNew.out
                rw [← shellsI_new hd] at hO9'
                have hS8 := (hS6.pure hal6).ne hG8.1 (fun b hb e => by have h1 : gs = b := by simpa [blk] using hb
                                                                       have := hOA.out b e
                                                                       omega)
                have hg8 := gr_row (gr_trans hg76 (gr_any hal6)) hG8.1 (fun b e => Nat.le_trans hhi2 (hOA.out b e).1)
                have hgw8 := gr_new hgw7 hg8 hwg
                clear hOa hO8 hG8 hNew hS6 hOr hal6 hI hl6
                go_wp2_with fail
                (go_roundw; (case rel => exact ⟨i + 1, A8, c8, by omega, by go_num, by rw [hlN.out], hO9', hS8, hg8, hgw8⟩); (case measure => simp [intOf]; omega))
          · rw [hd] at s0
            have e1 := hide (shellsI_old hd)
            have e2 := hide (sawL_same hd)
            go_wp2_with fail
            (go_roundw; (case rel => exact ⟨i + 1, O, co, by omega, by go_num, by rw [e1.out], by rw [e1.out]; exact hO, by rw [← e2.out]; exact hS, hg7, hgw⟩); (case measure => simp [intOf]; omega))
        · obtain rfl : i = fs.length := by omega
          go_wp2_with fail
          go_ret
          exact ⟨O, co, rfl, hO.lower (by have := hgw.size; omega), hgw⟩

end Go.Proofs.YtkcchcnljanloaaGreat

namespace Go.Proofs.YtkcchcnljanloaaGreat
open Go Go.RowKit Go.Bl

set_option maxHeartbeats 1000000 in
theorem meshShells_any (A : Option Addr) (c : Nat) (vs : List V3) (B : Option Addr) (d : Nat) (fs : List Fc) (w : World) (hl : Sl w 0 A vs) (hfs : Sl w 0 B fs) (hM : meshF ⟨vs, fs⟩ = 0) :
    Calls Tryz.prog 9 #[.agg #[.slice A vs.length c, .slice B fs.length d]] w fun e w' => ∃ (O : Option Addr) (co : Nat), e = .returned (.tuple #[.slice O (shellsI fs fs.length).length co, .int .i64 0]) ∧ OwnI w' w.heap.size 22 O co (shellsI fs fs.length) ∧ w.grownBy w' none := by
  have hok := meshOk.1 hM
  have hg0 := gr_alloc (World.grownBy.refl w none) (.cells #[.slice A vs.length c, .slice B fs.length d] 29)
  have b0 := Cell.new w [.slice A vs.length c, .slice B fs.length d] 29 0 _ rfl _ rfl
  have b1 := Cell.new w [.slice A vs.length c, .slice B fs.length d] 29 1 _ rfl _ rfl
  have hCM := checkMesh_any A c vs B d fs _ (hl.pure hg0) (hfs.pure hg0)
  rw [hM] at hCM
  replace hCM := hide hCM
  have hSh := hide (fun W h => shells_any A vs.length c B d fs W h hok.fl (fun s hs => by
      obtain ⟨f, hf, hs⟩ := List.mem_flatMap.1 hs
      exact sd_cell hok.vl (faceF_in (hok.face f hf)) s hs))
  clear hok hM
  go_enter Tryz.func9, Tryz.ntmps9
  go_wp2_with fail
  refine hCM.out.mono ?_
  rintro e w1 ⟨rfl, hg1⟩
  have b0' := (b0.gr hg1 (by simp)).1
  have b1' := (b1.gr hg1 (by simp)).1
  have hgw1 := gr_trans hg0 hg1
  clear hCM b0 b1 hg0 hg1
  go_wp2_with fail
  refine (hSh.out _ (hfs.pure hgw1)).mono ?_
  rintro e w2 ⟨O, co, rfl, hO, hg2⟩
  go_wp2_with fail
  exact bodyPost_ret (v := .tuple #[.slice O (shellsI fs fs.length).length co, .int .i64 0]) (by simp [results, Tryz.results9, go_sem]) rfl ⟨O, co, rfl, hO.lower hgw1.size, gr_trans hgw1 hg2⟩

end Go.Proofs.YtkcchcnljanloaaGreat

/- Contracts of functions that this seat's laws reach, each: what one call returns and what it leaves in memory; no condition beyond each theorem's own hypotheses. -/
import Derived.Test.YtgcpegjggakemaaGreatDoorZqCelN
import Derived.Test.YtgcpegjggakemaaGreatDoorZqClosData
import Derived.Test.YtgcpegjggakemaaGreatDoorZqGr2
import Derived.Deep.DeepCutAuto
set_option linter.unusedVariables false
set_option linter.unusedSimpArgs false
namespace Go.Proofs.YtgcpegjggakemaaGreatDoor
open Go Go.RowKit Go.Bl

theorem steps_any (w : World) : Calls Tryz.prog 84 #[] w fun e w' => ∃ A, e = .returned (.slice A 4 4) ∧ Sl w' w.heap.size A ([⟨0, -1⟩, ⟨-1, 0⟩, ⟨1, 0⟩, ⟨0, 1⟩] : List Pt) ∧ w.grownBy w' none := by
  go_enter Tryz.func84, Tryz.ntmps84
  go_wp2_with fail
  go_ret
  exact ⟨_, rfl, sl_lit w w.heap.size [.int .i64 0, .int .i64 (-1), .int .i64 (-1), .int .i64 0, .int .i64 1, .int .i64 0, .int .i64 0, .int .i64 1] _ _ (Nat.le_refl _) (by simp [maxLen]) ⟨_, _, rfl, rfl, _, _, rfl, rfl, _, _, rfl, rfl, _, [], rfl, rfl, rfl⟩, gr_alloc (World.grownBy.refl _ _) _⟩

def CntI (w0 : World) (g b gc ge gg : Nat) (G : Grd) (k : Nat) (w : World) : Prop :=
  ∃ e : Int, (0 ≤ e ∧ e ≤ 4 * k) ∧ Box w gc 3 [.int .i64 (cntK G k)] ∧ Box w ge 3 [.int .i64 e] ∧ w0.grownBy w none ∧ Box w gg 97 [.pointer (some ⟨g, 0, none⟩)] ∧ GridAt w g b G

theorem CntI.pure {w0 w w' : World} {g b gc ge gg : Nat} {G : Grd} {k : Nat} (h : CntI w0 g b gc ge gg G k w) (hg : w.grownBy w' none) : CntI w0 g b gc ge gg G k w' :=
  let ⟨e, h1, h2, h3, h4, h5, h6⟩ := h
  ⟨e, h1, h2.pure hg, h3.pure hg, h4.t hg, h5.pure hg, h6.pure hg⟩

theorem CntI.skip {w0 w : World} {g b gc ge gg : Nat} {G : Grd} {k : Nat} (h : CntI w0 g b gc ge gg G k w) (hv : G.on.getD k false = false) : CntI w0 g b gc ge gg G (k + 1) w :=
  let ⟨e, h1, h2, h3, h4, h5, h6⟩ := h
  ⟨e, by omega, by rw [cntK_next, hv]; exact h2, h3, h4, h5, h6⟩

end Go.Proofs.YtgcpegjggakemaaGreatDoor

namespace Go.Bl
open Go

theorem nb4_get (p : Pt) {m : Nat} (hm : m < 4) : ∃ h : m < (nb4 p).length, (nb4 p)[m] = ⟨p.x + (([⟨0, -1⟩, ⟨-1, 0⟩, ⟨1, 0⟩, ⟨0, 1⟩] : List Pt)[m]'hm).x, p.y + (([⟨0, -1⟩, ⟨-1, 0⟩, ⟨1, 0⟩, ⟨0, 1⟩] : List Pt)[m]'hm).y⟩ := by
  refine ⟨hm, ?_⟩
  rcases (show m = 0 ∨ m = 1 ∨ m = 2 ∨ m = 3 by omega) with rfl | rfl | rfl | rfl <;> rfl

theorem memL_nil (x y : Int) : memL [] x y = false := rfl

theorem memL_take {l : List Pt} {i : Nat} (hi : i < l.length) (x y : Int) : memL (l.take (i + 1)) x y = (memL (l.take i) x y || decide (x = l[i].x ∧ y = l[i].y)) := by
  rw [List.take_succ_eq_append_getElem hi, memL_snoc]

theorem memL_pre {l : List Pt} {q : Pt} {i : Nat} (hi : i ≤ l.length) (x y : Int) : memL ((l ++ [q]).take i) x y = memL (l.take i) x y := by
  rw [List.take_append_of_le_length hi]

theorem memL_iff {l : List Pt} {q : Pt} : memL l q.x q.y = true ↔ q ∈ l := by cases q; simp [memL]

end Go.Bl
namespace Go.Proofs.YtgcpegjggakemaaGreatDoor
open Go Go.RowKit Go.Bl

theorem own_litF {α : Type} [Enc α] [Flat α] (w : World) (lo : Nat) (cs : List Value) (t : TypeId) (l : List α) (g n : Nat) (hg : g = w.heap.size) (hn : n = l.length) (hlo : lo ≤ w.heap.size) (hm : l.length ≤ maxLen) (hr : Row w lo l cs) :
    Own (w.alloc (.cells cs.toArray t)) lo t (some ⟨g, 0, none⟩) n l := by
  subst hg
  subst hn
  have hlen := hr.len
  exact ⟨hm, cs, hr.flat, hlen, .inr ⟨w.heap.size, l.length, cs.toArray, rfl, hlo, heap_alloc_new w _, Nat.le_refl _, hm, by simpa using hlen, by rw [← hlen]; simp⟩⟩

theorem at_in_bd2 {G : Grd} (h : G.Ok) {x y : Int} (ha : G.at x y = true) : (-20000000 ≤ x ∧ x ≤ 20000000) ∧ (-20000000 ≤ y ∧ y ≤ 20000000) := by
  have h1 := Grd.at_in ha
  unfold Grd.In at h1
  have := h.x; have := h.y; have := h.w; have := h.h
  omega

theorem own_ptF {w : World} {lo g c : Nat} {e : TypeId} {l : List Pt} (hO : Own w lo e (some ⟨g, 0, none⟩) c l) {k : Nat} (hlt : k < l.length) : w.cell? ⟨g, k * 2, none⟩ = some (.int .i64 l[k].x) ∧ w.cell? ⟨g, k * 2 + 1, none⟩ = some (.int .i64 l[k].y) := by
  obtain ⟨cc, hcr, hcc⟩ := hO.cell_at (by decide) hlt
  have hcr' : cc = [.int .i64 l[k].x, .int .i64 l[k].y] := hcr
  subst hcr'
  exact ⟨hcc 0 _ rfl, hcc 1 _ rfl⟩

theorem set2_grF {w : World} {g : Nat} (u v : Value) : w.grownBy ((w.setCell ⟨g, 0, none⟩ u).setCell ⟨g, 1, none⟩ v) (some g) := gr_set (gr_set (World.grownBy.refl w (some g)) (.inl rfl) _) (.inl rfl) _
/-- the four steps in memory -/
def StpAt (w : World) (gs os : Nat) : Prop := ∀ m (h : m < 4), w.cell? ⟨gs, os + m * 2, none⟩ = some (.int .i64 (([⟨0, -1⟩, ⟨-1, 0⟩, ⟨1, 0⟩, ⟨0, 1⟩] : List Pt)[m]'h).x) ∧ w.cell? ⟨gs, os + m * 2 + 1, none⟩ = some (.int .i64 (([⟨0, -1⟩, ⟨-1, 0⟩, ⟨1, 0⟩, ⟨0, 1⟩] : List Pt)[m]'h).y)

theorem StpAt.gr {w w' : World} {gs os : Nat} {r : Option Nat} (h : StpAt w gs os) (hg : w.grownBy w' r) (hr : r ≠ some gs) : StpAt w' gs os := fun m hm => ⟨gr_cell hg (h m hm).1 hr, gr_cell hg (h m hm).2 hr⟩

theorem stp_of {w : World} {lo : Nat} {A : Option Addr} (h : Sl w lo A ([⟨0, -1⟩, ⟨-1, 0⟩, ⟨1, 0⟩, ⟨0, 1⟩] : List Pt)) : ∃ gs os, A = some ⟨gs, os, none⟩ ∧ lo ≤ gs ∧ StpAt w gs os := by
  obtain ⟨g, o, -, e, h0, -⟩ := h.at_ (by decide) (show 0 < ([⟨0, -1⟩, ⟨-1, 0⟩, ⟨1, 0⟩, ⟨0, 1⟩] : List Pt).length by simp)
  refine ⟨g, o, e, h0, fun m hm => ?_⟩
  obtain ⟨g', o', cs, e', _, _, hr, hc⟩ := h.at_ (by decide) (show m < ([⟨0, -1⟩, ⟨-1, 0⟩, ⟨1, 0⟩, ⟨0, 1⟩] : List Pt).length from hm)
  rw [e] at e'
  injection e' with e'
  injection e' with e1 e2
  subst e1; subst e2
  have hr' : cs = [.int .i64 (([⟨0, -1⟩, ⟨-1, 0⟩, ⟨1, 0⟩, ⟨0, 1⟩] : List Pt)[m]'hm).x, .int .i64 (([⟨0, -1⟩, ⟨-1, 0⟩, ⟨1, 0⟩, ⟨0, 1⟩] : List Pt)[m]'hm).y] := hr
  subst hr'
  exact ⟨hc 0 _ rfl, hc 1 _ rfl⟩
/-- a search at work: seen are the old ones and those that are found; the part holds the first t of these -/
def FlI (w0 : World) (sg sb pg pb : Nat) (G Sg : Grd) (l : List Pt) (t : Nat) (w : World) : Prop :=
  ∃ S' P' : Grd, (GridAt w sg sb S' ∧ S'.same G ∧ ∀ u v, S'.at u v = (Sg.at u v || memL l u v)) ∧ (GridAt w pg pb P' ∧ P'.same G ∧ ∀ u v, P'.at u v = memL (l.take t) u v) ∧ Gr2 w0 w sb pb
section
variable {w0 w w' : World} {sg sb pg pb : Nat} {G Sg : Grd} {l : List Pt} {t : Nat}

theorem FlI.gr {r : Option Nat} (h : FlI w0 sg sb pg pb G Sg l t w) (hg : w.grownBy w' r) (hr : ∀ x, r = some x → w0.heap.size ≤ x) (hs : sg < w0.heap.size ∧ sb < w0.heap.size ∧ pg < w0.heap.size ∧ pb < w0.heap.size) : FlI w0 sg sb pg pb G Sg l t w' := by
  obtain ⟨S', P', ⟨a1, a2, a3⟩, ⟨b1, b2, b3⟩, c⟩ := h
  refine ⟨S', P', ⟨a1.gr hg ?_ ?_, a2, a3⟩, ⟨b1.gr hg ?_ ?_, b2, b3⟩, c.step hg (fun x e => .inr (.inr (hr x e)))⟩ <;> (intro e; have := hr _ e; omega)

theorem FlI.pure (h : FlI w0 sg sb pg pb G Sg l t w) (hg : w.grownBy w' none) : FlI w0 sg sb pg pb G Sg l t w' := by
  obtain ⟨S', P', ⟨a1, a2, a3⟩, ⟨b1, b2, b3⟩, c⟩ := h
  exact ⟨S', P', ⟨a1.pure hg, a2, a3⟩, ⟨b1.pure hg, b2, b3⟩, c.pure hg⟩
end

theorem set_seen_any (w0 : World) (sg sb pg pb : Nat) (G Sg : Grd) (l : List Pt) (t : Nat) (q : Pt) (w : World) (h : FlI w0 sg sb pg pb G Sg l t w) (hq : G.In q.x q.y) (ht : t ≤ l.length) (hn : sb ≠ pb ∧ sb ≠ pg) :
    Calls Tryz.prog 94 #[.pointer (some ⟨sg, 0, none⟩), .int .i64 q.x, .int .i64 q.y] w fun e w' => e = .returned (.tuple #[]) ∧ FlI w0 sg sb pg pb G Sg (l ++ [q]) t w' ∧ w.grownBy w' (some sb) := by
  obtain ⟨S', P', ⟨a1, a2, a3⟩, ⟨b1, b2, b3⟩, c⟩ := h
  have hi : S'.In q.x q.y := (a2.in_ _ _).2 hq
  refine (set_any sg sb S' q.x q.y w a1 hi).mono ?_
  rintro e w' ⟨rfl, k1, k2⟩
  exact ⟨rfl, ⟨S'.put q.x q.y, P', ⟨k1, a2.put _ _, fun u v => by rw [a1.ok.put_at hi, a3, memL_snoc, Bool.or_assoc]⟩,
    ⟨b1.gr k2 (by intro e; injection e with e; exact hn.2 e) (by intro e; injection e with e; exact hn.1 e), b2, fun u v => by rw [b3, memL_pre ht]⟩, c.sb k2⟩, k2⟩

theorem set_part_any (w0 : World) (sg sb pg pb : Nat) (G Sg : Grd) (l : List Pt) (t : Nat) (w : World) (h : FlI w0 sg sb pg pb G Sg l t w) (ht : t < l.length) (hq : G.In l[t].x l[t].y) (hn : pb ≠ sb ∧ pb ≠ sg) :
    Calls Tryz.prog 94 #[.pointer (some ⟨pg, 0, none⟩), .int .i64 l[t].x, .int .i64 l[t].y] w fun e w' => e = .returned (.tuple #[]) ∧ FlI w0 sg sb pg pb G Sg l (t + 1) w' ∧ w.grownBy w' (some pb) := by
  obtain ⟨S', P', ⟨a1, a2, a3⟩, ⟨b1, b2, b3⟩, c⟩ := h
  have hi : P'.In l[t].x l[t].y := (b2.in_ _ _).2 hq
  refine (set_any pg pb P' l[t].x l[t].y w b1 hi).mono ?_
  rintro e w' ⟨rfl, k1, k2⟩
  exact ⟨rfl, ⟨S', P'.put l[t].x l[t].y, ⟨a1.gr k2 (by intro e; injection e with e; exact hn.2 e) (by intro e; injection e with e; exact hn.1 e), a2, a3⟩,
    ⟨k1, b2.put _ _, fun u v => by rw [b1.ok.put_at hi, b3, memL_take ht]⟩, c.sq k2⟩, k2⟩

theorem seen_any (w0 : World) (sg sb pg pb : Nat) (G Sg : Grd) (l : List Pt) (t : Nat) (x y : Int) (w : World) (h : FlI w0 sg sb pg pb G Sg l t w) (hx : -100000000 ≤ x ∧ x ≤ 100000000) (hy : -100000000 ≤ y ∧ y ≤ 100000000) :
    Calls Tryz.prog 85 #[.pointer (some ⟨sg, 0, none⟩), .int .i64 x, .int .i64 y] w fun e w' => e = .returned (.bool (Sg.at x y || memL l x y)) ∧ w.grownBy w' none := by
  obtain ⟨S', P', ⟨a1, a2, a3⟩, -, -⟩ := h
  refine (at_any sg sb S' x y w a1 hx hy).mono ?_
  rintro e w' ⟨rfl, k⟩
  exact ⟨by rw [a3], k⟩

set_option maxHeartbeats 8000000 in
set_option maxRecDepth 100000 in
theorem flood_any (g gb : Nat) (G : Grd) (sg sb : Nat) (Sg : Grd) (pg pb : Nat) (Pg : Grd) (x y : Int) (w : World) (hG : GridAt w g gb G) (hS : GridAt w sg sb Sg) (hP : GridAt w pg pb Pg) (hSs : Sg.same G) (hPs : Pg.same G) (hPn : ∀ u v, Pg.at u v = false)
    (hV : ∀ p q, q ∈ nb4 p → G.at q.x q.y = true → G.at p.x p.y = true → Sg.at q.x q.y = true → Sg.at p.x p.y = true) (hxy : G.at x y = true) (hns : Sg.at x y = false)
    (hd : sb ≠ pb ∧ sb ≠ pg ∧ pb ≠ sg ∧ sb ≠ g ∧ sb ≠ gb ∧ pb ≠ g ∧ pb ≠ gb) :
    Calls Tryz.prog 100 #[.pointer (some ⟨g, 0, none⟩), .pointer (some ⟨sg, 0, none⟩), .int .i64 x, .int .i64 y, .func (.func 94) #[.pointer (some ⟨pg, 0, none⟩)] #[]] w fun e w' => e = .returned (.tuple #[]) ∧ ∃ S' P' : Grd,
      (GridAt w' sg sb S' ∧ S'.same G ∧ ∀ u v, S'.at u v = (Sg.at u v || compB G.at ⟨x, y⟩ u v)) ∧ (GridAt w' pg pb P' ∧ P'.same G ∧ ∀ u v, P'.at u v = compB G.at ⟨x, y⟩ u v) ∧ Gr2 w w' sb pb := by
  have hlts := And.intro hS.lt hP.lt
  have hI0 : FlI w sg sb pg pb G Sg [] 0 w := ⟨Sg, Pg, ⟨hS, hSs, fun u v => by simp [memL_nil]⟩, ⟨hP, hPs, fun u v => by rw [hPn]; simp [memL_nil]⟩, Gr2.refl _ _ _⟩
  have hok := hG.ok
  have hbd := hide (fun (q : Pt) (h : G.at q.x q.y = true) => at_in_bd2 hok h)
  have hset0 := hide (set_seen_any w sg sb pg pb G Sg [] 0 ⟨x, y⟩ w hI0 (Grd.at_in hxy) (Nat.le_refl _) ⟨hd.1, hd.2.1⟩)
  have hB0 : Hid (Bfs nb4 G.at Sg.at ⟨x, y⟩ [⟨x, y⟩] 0 0) := Bfs.start hns
  have hxyb := hbd.out ⟨x, y⟩ hxy
  have hGat := hide (fun W (h : Gr2 w W sb pb) px py => at_any g gb G px py W (⟨hok, h.box hG.bx hd.2.2.2.1 hd.2.2.2.2.2.1, h.ownF hG.on hd.2.2.2.2.1 hd.2.2.2.2.2.2⟩))
  obtain ⟨i0, hi, hz, h1, h2⟩ := info_parts info_pt
  replace hi := hide hi
  replace hz := hide hz
  replace h1 := hide h1
  replace h2 := hide h2
  replace hV := hide hV
  replace hxy := hide hxy
  replace hns := hide hns
  clear hI0 hS hP hPn hSs hPs hG
  go_enter Tryz.func100, Tryz.ntmps100
  go_wp2_with fail
  refine hset0.out.mono ?_
  rintro e w1 ⟨rfl, hI1, hg1⟩
  clear hset0 hg1
  rw [List.nil_append] at hI1
  have hsz1 : w.heap.size ≤ w1.heap.size := let ⟨_, _, _, _, c⟩ := hI1; c.size
  go_wp2_with fail
  have hO1 := own_litF w1 w.heap.size [.int .i64 x, .int .i64 y] 30 [(⟨x, y⟩ : Pt)] w1.heap.size 1 rfl rfl hsz1 (by simp [maxLen]) ⟨_, [], rfl, rfl, rfl⟩
  have hI2 := hI1.pure (gr_alloc (World.grownBy.refl w1 none) (.cells #[.int .i64 x, .int .i64 y] 30))
  change Own (w1.alloc (.cells #[.int .i64 x, .int .i64 y] 30)) _ _ _ _ _ at hO1
  generalize w1.alloc (.cells #[.int .i64 x, .int .i64 y] 30) = w2 at *
  clear hI1 hsz1
  obtain ⟨N, hN⟩ : ∃ N, N = G.wide * G.high := ⟨_, rfl⟩
  have hNb : N ≤ 1000000 := by rw [hN]; exact ix_bd hok.w hok.h
  have hlb : Hid (∀ l : List Pt, (∀ q ∈ l, Rch nb4 G.at ⟨x, y⟩ q) → l.Nodup → l.length ≤ N) := fun l h1 h2 => by
    rw [hN]
    exact nodup_box h2 (x0 := G.x) (y0 := G.y) (fun p hp => by
      have := Grd.at_in ((h1 p hp).in_ hxy.out)
      unfold Grd.In at this
      omega)
  replace hN := hide hN
  go_wp2_with fail
  go_loopw [10, 11] (fun s i wr => ∃ (l : List Pt) (k : Nat) (A : Option Addr) (c : Nat), k ≤ l.length ∧ i = .int .i64 k ∧ s = .slice A l.length c ∧ Own wr w.heap.size 30 A c l ∧ Hid (Bfs nb4 G.at Sg.at ⟨x, y⟩ l k 0) ∧ FlI w sg sb pg pb G Sg l k wr) (fun _ i _ => N - (intOf i).toNat)
  case atStart => exact ⟨[⟨x, y⟩], 0, _, _, Nat.zero_le _, rfl, rfl, hO1, hB0, hI2⟩
  case round =>
    clear hO1 hB0 hI2
    obtain ⟨l, k, A, c, hk, rfl, rfl, hO, hB, hI⟩ := hrel
    have hlN := hlb.out l hB.out.rch hB.out.nd
    by_cases hlt : k < l.length
    · have hat := (hB.out.rch _ (List.getElem_mem hlt)).in_ hxy.out
      have hqb := hbd.out _ hat
      have hset := hide (fun W (hg : wr.grownBy W none) => set_part_any w sg sb pg pb G Sg l k W (hI.pure hg) hlt (Grd.at_in hat) ⟨Ne.symm hd.1, hd.2.2.1⟩)
      obtain ⟨ga, rfl, hga, -⟩ := hO.shape (by omega)
      obtain ⟨c0, c1⟩ := own_ptF hO hlt
      obtain ⟨q, hq⟩ : ∃ q, q = l[k] := ⟨_, rfl⟩
      rw [← hq] at hat hqb hset c0 c1
      replace hq := hide hq
      replace hat := hide hat
      clear hI
      go_upto_region 5 with fail
      refine wp_region_tree (fun wx => wr.grownBy wx none) [2, 2, 2, 2, 2, 1, 2, 2, 2, 2, 1, 0] (.bl 0 (.bl 1 (.bl 2 (.bl 3 (.bl 4 (.bl 5 (.bl 6 (.bl 7 (.bl 8 (.bl 9 (.bl 10 (.ef 11 .done)))))))))))) (by kernel_rfl) (by kernel_rfl) (gr_drew (World.grownBy.refl _ _)) ?_
      obtain ⟨w3, hw3⟩ : ∃ x, x = (wr).drew := ⟨_, rfl⟩
      rw [← hw3]
      have hgw3 : (wr).grownBy w3 none := by rw [hw3]; exact gr_drew (World.grownBy.refl _ _)
      clear hw3
      refine tree_p rfl rfl rfl rfl _ rfl (by simp) (fun K hK => ?_)
      apply Exists.intro
      refine ⟨fun wq K' hK' => ?_, ?_⟩
      · go_wp2_with fail
        exact hK'
      go_simp
      refine hK _ ?_
      clear hK K
      refine tree_p rfl rfl rfl rfl _ rfl (by simp) (fun K hK => ?_)
      apply Exists.intro
      refine ⟨fun wq K' hK' => ?_, ?_⟩
      · go_wp2_with fail
        exact hK'
      go_simp
      refine hK _ ?_
      clear hK K
      refine tree_p rfl rfl rfl rfl _ rfl (by simp) (fun K hK => ?_)
      apply Exists.intro
      refine ⟨fun wq K' hK' => ?_, ?_⟩
      · go_wp2_with fail
        exact hK'
      go_simp
      refine hK _ ?_
      clear hK K
      refine tree_p rfl rfl rfl rfl _ rfl (by simp) (fun K hK => ?_)
      apply Exists.intro
      refine ⟨fun wq K' hK' => ?_, ?_⟩
      · go_wp2_with fail
        exact hK'
      go_simp
      refine hK _ ?_
      clear hK K
      refine tree_p rfl rfl rfl rfl _ rfl (by simp) (fun K hK => ?_)
      apply Exists.intro
      refine ⟨fun wq K' hK' => ?_, ?_⟩
      · go_wp2_with fail
        exact hK'
      go_simp
      refine hK _ ?_
      clear hK K
      refine tree_b rfl rfl rfl rfl _ rfl (by simp) (fun K hK => ?_)
      apply Exists.intro
      refine ⟨fun wq hq K' hK' => ?_, ?_⟩
      · have q0 := hq.k c0
        have q1 := hq.k c1
        go_wp2_with fail
        exact hK'
      go_simp
      refine hK _ ?_
      clear hK K
      refine tree_p rfl rfl rfl rfl _ rfl (by simp) (fun K hK => ?_)
      apply Exists.intro
      refine ⟨fun wq K' hK' => ?_, ?_⟩
      · go_wp2_with fail
        exact hK'
      go_simp
      refine hK _ ?_
      clear hK K
      refine tree_p rfl rfl rfl rfl _ rfl (by simp) (fun K hK => ?_)
      apply Exists.intro
      refine ⟨fun wq K' hK' => ?_, ?_⟩
      · go_wp2_with fail
        exact hK'
      go_simp
      refine hK _ ?_
      clear hK K
      refine tree_p rfl rfl rfl rfl _ rfl (by simp) (fun K hK => ?_)
      apply Exists.intro
      refine ⟨fun wq K' hK' => ?_, ?_⟩
      · go_wp2_with fail
        exact hK'
      go_simp
      refine hK _ ?_
      clear hK K
      refine tree_p rfl rfl rfl rfl _ rfl (by simp) (fun K hK => ?_)
      apply Exists.intro
      refine ⟨fun wq K' hK' => ?_, ?_⟩
      · go_wp2_with fail
        exact hK'
      go_simp
      refine hK _ ?_
      clear hK K
      refine tree_b rfl rfl rfl rfl _ rfl (by simp) (fun K hK => ?_)
      apply Exists.intro
      refine ⟨fun wq hq K' hK' => ?_, ?_⟩
      · have q0 := hq.k c0
        have q1 := hq.k c1
        go_wp2_with fail
        exact hK'
      go_simp
      refine hK _ ?_
      clear hK K
      refine tree_e0 (by kernel_rfl) rfl rfl (fun K hK => ?_)
      go_wp2_with fail
      refine (hset.out w3 (gr_trans hgw3 (World.grownBy.refl _ _))).mono ?_
      rintro e w4 ⟨rfl, hI4, hg4⟩
      replace hI4 := hide hI4
      go_wp2_with fail
      try go_simp
      refine hK _ _ trivial ?_
      clear hK K
      refine tree_done ?_
      have hO4 := (hO.pure hgw3).keep hg4 (fun x e => by injection e; omega)
      clear c0 c1 hset hO hg4 hgw3
      go_wp2_with fail
      refine (steps_any w4).mono ?_
      rintro e w5 ⟨As, rfl, hsl, hg5⟩
      have hO5 := hO4.pure hg5
      have hI5 := hI4.out.pure hg5
      have hgal : ga < w4.heap.size := (hO4.blk_lt rfl).2
      obtain ⟨gs, os, rfl, hgs, hst⟩ := stp_of hsl
      have hsz : w.heap.size ≤ w4.heap.size := let ⟨_, _, _, _, c⟩ := hI4.out; c.size
      have hne0 : Hid (blk (some ⟨ga, 0, none⟩) ≠ some gs) := by
        intro e
        simp only [blk, Option.map_some, Option.some.injEq] at e
        have e2 : ga = gs := e
        omega
      have hB1 : Hid (Bfs nb4 G.at Sg.at ⟨x, y⟩ l k 0) := hB
      clear hO4 hI4 hsl hg5
      go_wp2_with fail
      go_loopw [10, 43] (fun s i wr => ∃ (l : List Pt) (m : Nat) (A : Option Addr) (c : Nat), m ≤ 4 ∧ i = .int .i64 m ∧ s = .slice A l.length c ∧ Own wr w.heap.size 30 A c l ∧ Hid (Bfs nb4 G.at Sg.at ⟨x, y⟩ l k m) ∧ FlI w sg sb pg pb G Sg l (k + 1) wr ∧ k < l.length ∧ Hid (blk A ≠ some gs) ∧ StpAt wr gs os) (fun _ i _ => 4 - (intOf i).toNat)
      case atStart => exact ⟨l, 0, _, c, by omega, rfl, rfl, hO5, hB1, hI5, hlt, hne0, hst⟩
      case round =>
        clear hO5 hI5 hB1 hne0 hst hq hqb hat
        obtain ⟨l, m, A, c, hm, rfl, rfl, hO, hB, hI, hlt, hne, hst⟩ := hrel
        have hlN := hlb.out l hB.out.rch hB.out.nd
        by_cases hm4 : m < 4
        · have hat := (hB.out.rch _ (List.getElem_mem hlt)).in_ hxy.out
          have hqb := hbd.out _ hat
          obtain ⟨s0, s1⟩ := hst m hm4
          obtain ⟨ga, rfl, hga, -⟩ := hO.shape (by omega)
          obtain ⟨c0, c1⟩ := own_ptF hO hlt
          obtain ⟨hm5, hnb⟩ := nb4_get l[k] hm4
          obtain ⟨S, hS⟩ : ∃ S, S = ([⟨0, -1⟩, ⟨-1, 0⟩, ⟨1, 0⟩, ⟨0, 1⟩] : List Pt)[m]'hm4 := ⟨_, rfl⟩
          have hSb : (-1 ≤ S.x ∧ S.x ≤ 1) ∧ (-1 ≤ S.y ∧ S.y ≤ 1) := by
            rw [hS]
            rcases (show m = 0 ∨ m = 1 ∨ m = 2 ∨ m = 3 by omega) with rfl | rfl | rfl | rfl <;> simp
          rw [← hS] at hnb s0 s1
          replace hS := hide hS
          replace hnb := hide hnb
          replace hat := hide hat
          obtain ⟨q, hq⟩ : ∃ q, q = l[k] := ⟨_, rfl⟩
          rw [← hq] at hqb c0 c1
          replace hq := hide hq
          have hsz : w.heap.size ≤ wr.heap.size := let ⟨_, _, _, _, c⟩ := hI; c.size
          have hgsl : gs < wr.heap.size := cell_lt s0
          have hgal : ga < wr.heap.size := (hO.blk_lt rfl).2
          have hm4d : (m : Int) < 4 := by omega
          go_upto_region 9 with fail
          obtain ⟨w13, hw13⟩ : ∃ x, x = (wr).alloc (.cells [.int .i64 S.x, .int .i64 S.y].toArray 30) := ⟨_, rfl⟩
          have hg13 : (wr).grownBy w13 none := by rw [hw13]; exact gr_alloc (World.grownBy.refl _ _) _
          have hb13 : Box w13 (wr).heap.size 30 [.int .i64 S.x, .int .i64 S.y] := by rw [hw13]; exact Box.new _ _ _
          have hxs13 := hb13.lt
          rw [← hw13]
          clear hw13
          obtain ⟨x13, hx13⟩ : ∃ x, x = (wr).heap.size := ⟨_, rfl⟩
          rw [← hx13] at hb13 hxs13 ⊢
          have hxl13 : (wr).heap.size ≤ x13 := by omega
          clear hx13
          replace c0 := hg13.k c0
          replace c1 := hg13.k c1
          obtain ⟨t0, -⟩ := hb13.c 0 rfl
          obtain ⟨t1, -⟩ := hb13.c 1 rfl
          clear s0 s1
          refine wp_region_tree (fun wx => w13.grownBy wx none) [2, 2, 2, 2, 1, 2, 1, 2, 2, 2, 2, 2, 1, 2, 1, 2, 2, 0, 0] (.bl 0 (.bl 1 (.bl 2 (.bl 3 (.bl 4 (.bl 5 (.bl 6 (.bl 7 (.bl 8 (.bl 9 (.bl 10 (.bl 11 (.bl 12 (.bl 13 (.bl 14 (.bl 15 (.bl 16 (.ef 17 (.ef 18 .done))))))))))))))))))) (by kernel_rfl) (by kernel_rfl) (gr_drew (World.grownBy.refl _ _)) ?_
          obtain ⟨u0, hu0⟩ : ∃ x, x = (w13).drew := ⟨_, rfl⟩
          rw [← hu0]
          have hgu0 : (w13).grownBy u0 none := by rw [hu0]; exact gr_drew (World.grownBy.refl _ _)
          clear hu0
          refine tree_p rfl rfl rfl rfl _ rfl (by simp) (fun K hK => ?_)
          apply Exists.intro
          refine ⟨fun wq K' hK' => ?_, ?_⟩
          · go_wp2_with fail
            exact hK'
          go_simp
          refine hK _ ?_
          clear hK K
          refine tree_p rfl rfl rfl rfl _ rfl (by simp) (fun K hK => ?_)
          apply Exists.intro
          refine ⟨fun wq K' hK' => ?_, ?_⟩
          · go_wp2_with fail
            exact hK'
          go_simp
          refine hK _ ?_
          clear hK K
          refine tree_p rfl rfl rfl rfl _ rfl (by simp) (fun K hK => ?_)
          apply Exists.intro
          refine ⟨fun wq K' hK' => ?_, ?_⟩
          · go_wp2_with fail
            exact hK'
          go_simp
          refine hK _ ?_
          clear hK K
          refine tree_p rfl rfl rfl rfl _ rfl (by simp) (fun K hK => ?_)
          apply Exists.intro
          refine ⟨fun wq K' hK' => ?_, ?_⟩
          · go_wp2_with fail
            exact hK'
          go_simp
          refine hK _ ?_
          clear hK K
          refine tree_b rfl rfl rfl rfl _ rfl (by simp) (fun K hK => ?_)
          apply Exists.intro
          refine ⟨fun wq hq K' hK' => ?_, ?_⟩
          · have q0 := hq.k c0
            have q1 := hq.k c1
            have q2 := hq.k t0
            have q3 := hq.k t1
            go_wp2_with fail
            exact hK'
          go_simp
          refine hK _ ?_
          clear hK K
          refine tree_p rfl rfl rfl rfl _ rfl (by simp) (fun K hK => ?_)
          apply Exists.intro
          refine ⟨fun wq K' hK' => ?_, ?_⟩
          · go_wp2_with fail
            exact hK'
          go_simp
          refine hK _ ?_
          clear hK K
          refine tree_b rfl rfl rfl rfl _ rfl (by simp) (fun K hK => ?_)
          apply Exists.intro
          refine ⟨fun wq hq K' hK' => ?_, ?_⟩
          · have q0 := hq.k c0
            have q1 := hq.k c1
            have q2 := hq.k t0
            have q3 := hq.k t1
            go_wp2_with fail
            exact hK'
          go_simp
          refine hK _ ?_
          clear hK K
          refine tree_p rfl rfl rfl rfl _ rfl (by simp) (fun K hK => ?_)
          apply Exists.intro
          refine ⟨fun wq K' hK' => ?_, ?_⟩
          · go_wp2_with fail
            exact hK'
          go_simp
          refine hK _ ?_
          clear hK K
          refine tree_p rfl rfl rfl rfl _ rfl (by simp) (fun K hK => ?_)
          apply Exists.intro
          refine ⟨fun wq K' hK' => ?_, ?_⟩
          · go_wp2_with fail
            exact hK'
          go_simp
          refine hK _ ?_
          clear hK K
          refine tree_p rfl rfl rfl rfl _ rfl (by simp) (fun K hK => ?_)
          apply Exists.intro
          refine ⟨fun wq K' hK' => ?_, ?_⟩
          · go_wp2_with fail
            exact hK'
          go_simp
          refine hK _ ?_
          clear hK K
          refine tree_p rfl rfl rfl rfl _ rfl (by simp) (fun K hK => ?_)
          apply Exists.intro
          refine ⟨fun wq K' hK' => ?_, ?_⟩
          · go_wp2_with fail
            exact hK'
          go_simp
          refine hK _ ?_
          clear hK K
          refine tree_p rfl rfl rfl rfl _ rfl (by simp) (fun K hK => ?_)
          apply Exists.intro
          refine ⟨fun wq K' hK' => ?_, ?_⟩
          · go_wp2_with fail
            exact hK'
          go_simp
          refine hK _ ?_
          clear hK K
          refine tree_b rfl rfl rfl rfl _ rfl (by simp) (fun K hK => ?_)
          apply Exists.intro
          refine ⟨fun wq hq K' hK' => ?_, ?_⟩
          · have q0 := hq.k c0
            have q1 := hq.k c1
            have q2 := hq.k t0
            have q3 := hq.k t1
            go_wp2_with fail
            exact hK'
          go_simp
          refine hK _ ?_
          clear hK K
          refine tree_p rfl rfl rfl rfl _ rfl (by simp) (fun K hK => ?_)
          apply Exists.intro
          refine ⟨fun wq K' hK' => ?_, ?_⟩
          · go_wp2_with fail
            exact hK'
          go_simp
          refine hK _ ?_
          clear hK K
          refine tree_b rfl rfl rfl rfl _ rfl (by simp) (fun K hK => ?_)
          apply Exists.intro
          refine ⟨fun wq hq K' hK' => ?_, ?_⟩
          · have q0 := hq.k c0
            have q1 := hq.k c1
            have q2 := hq.k t0
            have q3 := hq.k t1
            go_wp2_with fail
            exact hK'
          go_simp
          refine hK _ ?_
          clear hK K
          refine tree_p rfl rfl rfl rfl _ rfl (by simp) (fun K hK => ?_)
          apply Exists.intro
          refine ⟨fun wq K' hK' => ?_, ?_⟩
          · go_wp2_with fail
            exact hK'
          go_simp
          refine hK _ ?_
          clear hK K
          refine tree_p rfl rfl rfl rfl _ rfl (by simp) (fun K hK => ?_)
          apply Exists.intro
          refine ⟨fun wq K' hK' => ?_, ?_⟩
          · go_wp2_with fail
            exact hK'
          go_simp
          refine hK _ ?_
          clear hK K
          refine tree_e rfl rfl (fun K hK => ?_)
          go_wp2_with fail
          try go_simp
          refine hK _ _ (gr_alloc hgu0 _) ?_
          clear hK K
          obtain ⟨w17, hw17⟩ : ∃ x, x = (u0).alloc (.cells [.int .i64 0, .int .i64 0].toArray 30) := ⟨_, rfl⟩
          have hg17 : (u0).grownBy w17 none := by rw [hw17]; exact gr_alloc (World.grownBy.refl _ _) _
          have hb17 : Box w17 (u0).heap.size 30 [.int .i64 0, .int .i64 0] := by rw [hw17]; exact Box.new _ _ _
          rw [← hw17]
          clear hw17
          obtain ⟨x17, hx17⟩ : ∃ x, x = (u0).heap.size := ⟨_, rfl⟩
          rw [← hx17] at hb17 ⊢
          have hxl17 : (u0).heap.size ≤ x17 := by omega
          clear hx17
          refine tree_e0 (by kernel_rfl) rfl rfl (fun K hK => ?_)
          obtain ⟨k0, f0⟩ := hb17.c 0 rfl
          obtain ⟨k1, f1⟩ := hb17.c 1 rfl
          go_wp2_with fail
          try go_simp
          refine hK _ _ trivial ?_
          clear hK K
          refine tree_done ?_
          have hgs := set2_grF (w := w17) (g := x17) (.int .i64 (q.x + S.x)) (.int .i64 (q.y + S.y))
          have hb := (hb17.set_ 0 (.int .i64 (q.x + S.x)) (by simp)).set_ 1 (.int .i64 (q.y + S.y)) (by simp)
          have hg13' := gr_trans hg13 (gr_trans hgu0 hg17)
          have hx17 : w.heap.size ≤ x17 := by have := hg13.size; have := hgu0.size; omega
          have hx17s : gs ≠ x17 := by have := hg13.size; have := hgu0.size; omega
          have hx17l : blk (some ⟨ga, 0, none⟩) ≠ some x17 := by
            intro e
            simp only [blk, Option.map_some, Option.some.injEq] at e
            have e2 : ga = x17 := e
            have := hg13.size; have := hgu0.size; omega
          have hO' := (hO.pure hg13').ne hgs (fun z hz e => hx17l (by rw [hz]; exact e.symm))
          have hI' := (hI.pure hg13').gr hgs (fun z e => by injection e; omega) ⟨hlts.1.1, hlts.1.2, hlts.2.1, hlts.2.2⟩
          have hst' := (hst.gr hg13' (by simp)).gr hgs (by intro e; injection e with e; exact hx17s e.symm)
          generalize (w17).setCell ⟨x17, 0, none⟩ (.int .i64 (q.x + S.x)) = wy at *
          generalize wy.setCell ⟨x17, 1, none⟩ (.int .i64 (q.y + S.y)) = wz at *
          clear hO hI hst hg13 hgu0 hg17 hg13' c0 c1 t0 t1 hb17 hgs hxs13 hxl13 hb13
          change Box wz x17 30 [.int .i64 (q.x + S.x), .int .i64 (q.y + S.y)] at hb
          obtain ⟨px, hpx⟩ : ∃ z, z = q.x + S.x := ⟨_, rfl⟩
          obtain ⟨py, hpy⟩ : ∃ z, z = q.y + S.y := ⟨_, rfl⟩
          have hpb : (-20000001 ≤ px ∧ px ≤ 20000001) ∧ (-20000001 ≤ py ∧ py ≤ 20000001) := by omega
          have hnp : Hid ((nb4 l[k])[m] = ⟨px, py⟩) := by rw [Hid, hnb.out, hpx, hpy, hq.out]
          rw [← hpx, ← hpy] at hb
          rw [← hpx, ← hpy]
          clear hpx hpy hnb hSb hqb hS
          obtain ⟨t0, -⟩ := hb.c 0 rfl
          obtain ⟨t1, -⟩ := hb.c 1 rfl
          have hgr2 : Gr2 w wz sb pb := let ⟨_, _, _, _, c⟩ := hI'; c
          have hszz : w.heap.size ≤ wz.heap.size := hgr2.size
          have hA1 := hide (hGat.out wz hgr2 px py (by omega) (by omega))
          clear hgr2
          rcases hv1 : G.at px py with _ | _
          · have hfin := hide (hB.out.skip hlt hm5 (fun ha => by rw [hnp.out] at ha; rw [hv1] at ha; cases ha))
            rw [hv1] at hA1
            clear hv1
            replace hnp := hide hnp
            go_wp2_with fail
            refine hA1.out.mono ?_
            rintro e wv ⟨rfl, hgv⟩
            clear t0 t1 hA1
            go_wp2_with fail
            (go_roundw; (case rel => exact ⟨l, m + 1, _, c, by omega, by go_num, rfl, hO'.pure hgv, hfin.out, hI'.pure hgv, hlt, hne, hst'.gr hgv (by simp)⟩); (case measure => simp [intOf]; omega))
          · rw [hv1] at hA1
            have hA2 := hide (fun W (h : wz.grownBy W none) => seen_any w sg sb pg pb G Sg l (k + 1) px py W (hI'.pure h) (by omega) (by omega))
            go_wp2_with fail
            refine hA1.out.mono ?_
            rintro e wv ⟨rfl, hgv⟩
            replace t0 := hgv.k t0
            replace t1 := hgv.k t1
            clear hA1
            rcases hv2 : (Sg.at px py || memL l px py) with _ | _
            rotate_left
            · have hfin := hide (hB.out.skip hlt hm5 (fun ha => by
                rw [hnp.out]
                rw [Bool.or_eq_true] at hv2
                rcases hv2 with h | h
                · exact .inr h
                · exact .inl ((memL_iff (q := ⟨px, py⟩)).1 h)))
              rw [hv2] at hA2
              clear hv2
              replace hnp := hide hnp
              go_wp2_with fail
              refine (hA2.out wv hgv).mono ?_
              rintro e wu ⟨rfl, hgu⟩
              have hgvu := hgv.t hgu
              clear t0 t1 hA2 hgv hgu
              go_wp2_with fail
              (go_roundw; (case rel => exact ⟨l, m + 1, _, c, by omega, by go_num, rfl, hO'.pure hgvu, hfin.out, hI'.pure hgvu, hlt, hne, hst'.gr hgvu (by simp)⟩); (case measure => simp [intOf]; omega))
            · rw [hv2] at hA2
              rw [Bool.or_eq_false_iff] at hv2
              have hnl : (⟨px, py⟩ : Pt) ∉ l := fun h => by rw [← memL_iff] at h; rw [hv2.2] at h; cases h
              have hfin := hide (hB.out.push hlt hm5 hnp.out.symm hv1 hnl hv2.1)
              have hset := hide (fun W (h : wz.grownBy W none) => set_seen_any w sg sb pg pb G Sg l (k + 1) ⟨px, py⟩ W (hI'.pure h) (Grd.at_in hv1) (by omega) ⟨hd.1, hd.2.1⟩)
              have hl1 : l.length + 1 ≤ N := by
                have := hlb.out (l ++ [⟨px, py⟩]) hfin.out.rch hfin.out.nd
                simpa using this
              clear hv2 hv1 hnl
              replace hnp := hide hnp
              go_wp2_with fail
              refine (hA2.out wv hgv).mono ?_
              rintro e wu ⟨rfl, hgu⟩
              have hgvu := hgv.t hgu
              replace t0 := hgu.k t0
              replace t1 := hgu.k t1
              clear hA2 hgv hgu
              go_wp2_with fail
              refine (hset.out wu hgvu).mono ?_
              rintro e wt ⟨rfl, hIt, hgt⟩
              replace t0 := gr_cell hgt t0 (by intro e; injection e with e; have e2 : sb = x17 := e; omega)
              replace t1 := gr_cell hgt t1 (by intro e; injection e with e; have e2 : sb = x17 := e; omega)
              have hOt := (hO'.pure hgvu).keep hgt (fun z e => by injection e; omega)
              have hstt := (hst'.gr hgvu (by simp)).gr hgt (by intro e; injection e with e; omega)
              have hszt : w.heap.size ≤ wt.heap.size := let ⟨_, _, _, _, c⟩ := hIt; c.size
              have hgst : gs < wt.heap.size := cell_lt (hstt 0 (by omega)).1
              clear hset hgvu hgt hI' hO' hst'
              go_wp2_with (at_builtin; refine wpList_pushAt (α := Pt) _ rfl (.tmp 85) (.tmp 87) _ rfl w.heap.size 30 i0 _ 16 Tryz.underlying64 hi.out hz.out h1.out h2.out rfl _ _ _ l rfl rfl (by exact hOt.pure (gr_alloc (World.grownBy.refl _ _) _)) 0 ⟨_, 0, none⟩ 1 1 [⟨px, py⟩] rfl rfl (by exact sl_oneAt _ 0 [.int .i64 px, .int .i64 py] _ _ _ (by first | rfl | simp) (Nat.zero_le _) rfl) ?c2 ?c3 ?c4 ?_)
              case c2 => simp; omega
              case c3 => simp [maxLen]; omega
              case c4 => simp; omega
              intro A' c' wz' hOz hGz
              have hgA := gr_alloc (World.grownBy.refl wt none) (.cells #[.int .i64 px, .int .i64 py] 30)
              have hI6 := (hIt.pure hgA).gr hGz.1 (fun z e => (hOt.blk_lt e).1) ⟨hlts.1.1, hlts.1.2, hlts.2.1, hlts.2.2⟩
              have hst6 := (hstt.gr hgA (by simp)).gr hGz.1 (by intro e; exact hne.out e)
              have hne6 : Hid (blk A' ≠ some gs) := by
                rcases hGz.2 with h | h
                · rw [Hid, h]; exact hne.out
                · rw [Hid, h]; intro e; injection e with e; simp at e; omega
              have hlen6 : (l ++ [(⟨px, py⟩ : Pt)]).length = l.length + 1 := by simp
              have hlt6 : k < (l ++ [(⟨px, py⟩ : Pt)]).length := by omega
              replace hlen6 := hide hlen6
              clear hOt hGz hIt hstt hgA t0 t1
              go_wp2_with fail
              (go_roundw; (case rel => exact ⟨l ++ [(⟨px, py⟩ : Pt)], m + 1, A', c', by omega, by go_num, by rw [hlen6.out], hOz, hfin.out, hI6, hlt6, hne6, hst6⟩); (case measure => simp [intOf]; omega))
        · obtain rfl : m = 4 := by omega
          have hfin := hide (hB.out.next (fun _ => by show (nb4 _).length ≤ 4; exact Nat.le_refl _))
          have hlt2 : k + 1 ≤ l.length := hlt
          clear hlt hm4 hm hst hne
          go_wp2_with fail
          (go_roundw; (case rel => exact ⟨l, k + 1, A, c, hlt2, by go_num, rfl, hO, hfin.out, hI⟩); (case measure => simp [intOf]; omega))
    · obtain rfl : k = l.length := by omega
      have hall := hide (fun p => hB.out.all (Nat.le_refl _) hV.out hxy.out p)
      have hS : Hid (∀ u v, memL l u v = compB G.at ⟨x, y⟩ u v) := fun u v => by
        rw [Bool.eq_iff_iff, compB_iff, ← hall.out ⟨u, v⟩]
        exact memL_iff (q := ⟨u, v⟩)
      have hfin : Hid (∃ S' P' : Grd, (GridAt wr sg sb S' ∧ S'.same G ∧ ∀ u v, S'.at u v = (Sg.at u v || compB G.at ⟨x, y⟩ u v)) ∧ (GridAt wr pg pb P' ∧ P'.same G ∧ ∀ u v, P'.at u v = compB G.at ⟨x, y⟩ u v) ∧ Gr2 w wr sb pb) := by
        obtain ⟨S', P', ⟨a1, a2, a3⟩, ⟨b1, b2, b3⟩, c⟩ := hI
        exact ⟨S', P', ⟨a1, a2, fun u v => by rw [a3, hS.out]⟩, ⟨b1, b2, fun u v => by rw [b3, List.take_length, hS.out]⟩, c⟩
      clear hI hO hB hk hlt
      go_wp2_with fail
      go_end0
      exact ⟨rfl, hfin.out⟩

end Go.Proofs.YtgcpegjggakemaaGreatDoor

namespace Go.Bl
open Go
/-- cells as they lie in a row -/
structure RawC where
  step : Int
  x : Int
  y : Int
  A : Option Addr
  n : Nat
  c : Nat

instance : Enc RawC where
  sz := 4
  rep := fun _ _ p cs => cs = [.int .i64 p.step, .int .i64 p.x, .int .i64 p.y, .slice p.A p.n p.c]
  len := by rintro w lo x cs rfl; rfl
  one := by rintro w lo x cs rfl u hu; simp at hu; rcases hu with rfl | rfl | rfl | rfl <;> rfl
  keep := fun h _ => h
  mono := fun h _ => h

instance : Flat RawC := ⟨fun h => h, by decide⟩

def rawOf (c : Cel) (A : Option Addr) (cc : Nat) : RawC := ⟨c.step, c.x, c.y, A, c.rows.length, cc⟩

end Go.Bl
namespace Go.Proofs.YtgcpegjggakemaaGreatDoor
open Go Go.RowKit Go.Bl

theorem info_celP : (Tryz.prog.info? 34).map (fun i => (i.zero, i.size, i.bytes)) = some (some (.agg #[.int .i64 0, .int .i64 0, .int .i64 0, .slice none 0 0]), 4, 48) := by kernel_rfl

/-- a row of cells of one's own: each has rows of one's own -/
def CMatch (w : World) (lo : Nat) (raws : List RawC) (cs : List Cel) : Prop :=
  raws.length = cs.length ∧ ∀ i (h : i < raws.length) (h2 : i < cs.length), ∃ A c, raws[i] = rawOf cs[i] A c ∧ Own w lo 9 A c cs[i].rows
section
variable {w w' : World} {lo : Nat} {raws : List RawC} {cs : List Cel}

theorem CMatch.nil : CMatch w lo [] [] := ⟨rfl, fun i h => by simp at h⟩

theorem CMatch.keep (h : CMatch w lo raws cs) {r : Option Nat} (hg : w.grownBy w' r) (hr : ∀ (A : Option Addr) c (rows : List ByteArray), Own w lo 9 A c rows → ∀ g, blk A = some g → r ≠ some g) : CMatch w' lo raws cs :=
  ⟨h.1, fun i h1 h2 => let ⟨A, c, e, ho⟩ := h.2 i h1 h2; ⟨A, c, e, ho.ne hg (hr A c _ ho)⟩⟩

theorem CMatch.pure (h : CMatch w lo raws cs) (hg : w.grownBy w' none) : CMatch w' lo raws cs := h.keep hg (fun _ _ _ _ _ _ e => by cases e)

theorem CMatch.gr2 (h : CMatch w lo raws cs) {b q : Nat} (hg : Gr2 w w' b q) (h1 : Typ w b 4) (h2 : Typ w q 4) : CMatch w' lo raws cs :=
  ⟨h.1, fun i k1 k2 => by
    obtain ⟨A, c, e, ho⟩ := h.2 i k1 k2
    refine ⟨A, c, e, ?_⟩
    rcases hA : A with _ | ad
    · subst hA
      obtain ⟨hm, cs', hr, h3, h4⟩ := ho
      rcases h4 with h4 | ⟨g', cap, cur, hv, _⟩
      · exact ⟨hm, cs', hr.flat, h3, .inl h4⟩
      · cases hv
    · subst hA
      have hsh : ∃ g, ad = ⟨g, 0, none⟩ := by
        obtain ⟨hm, cs', hr, h3, h4⟩ := ho
        rcases h4 with ⟨h4, _⟩ | ⟨g', cap, cur, hv, _⟩
        · cases h4
        · injection hv with hv; injection hv with hv; exact ⟨g', hv⟩
      obtain ⟨g, rfl⟩ := hsh
      have ht := ho.typ (g := g) rfl
      refine hg.ownF ho (fun e => ?_) (fun e => ?_)
      · subst e; exact absurd (ht.uniq h1) (by decide)
      · subst e; exact absurd (ht.uniq h2) (by decide)⟩

theorem CMatch.push (h : CMatch w lo raws cs) {c : Cel} {A : Option Addr} {cc : Nat} (ho : Own w lo 9 A cc c.rows) : CMatch w lo (raws ++ [rawOf c A cc]) (cs ++ [c]) := by
  refine ⟨by simp [h.1], fun i h1 h2 => ?_⟩
  by_cases hi : i < raws.length
  · have hi2 : i < cs.length := by have := h.1; omega
    rw [List.getElem_append_left hi, List.getElem_append_left hi2]
    exact h.2 i hi hi2
  · have hi1 : i = raws.length := by simp at h1; omega
    have hi2 : i = cs.length := by have := h.1; omega
    have e1 : (raws ++ [rawOf c A cc])[i] = rawOf c A cc := by subst hi1; simp
    have e2 : (cs ++ [c])[i] = c := by
      have : (cs ++ [c])[i]? = some c := by rw [hi2]; simp
      rw [List.getElem?_eq_getElem h2] at this
      injection this
    rw [e1, e2]
    exact ⟨A, cc, rfl, ho⟩
end

theorem Own.cases2 {α : Type} [Enc α] {w : World} {lo : Nat} {e : TypeId} {A : Option Addr} {c : Nat} {l : List α} (h : Own w lo e A c l) : (A = none ∧ c = 0 ∧ l = []) ∨ ∃ g, A = some ⟨g, 0, none⟩ := by
  obtain ⟨_, cs, _, ho⟩ := h
  rcases ho.2 with ⟨h1, h2⟩ | ⟨g, cap, cur, hv, _⟩
  · injection h1 with h1 h3 h4
    exact .inl ⟨h1, h4, List.eq_nil_of_length_eq_zero h2⟩
  · injection hv with hv
    exact .inr ⟨g, hv⟩

theorem reps_len (S : Int → Int → Bool) (E : List Pt) : (repsL S E).length ≤ E.length := by
  refine snoc_indP (P := fun E => (repsL S E).length ≤ E.length) ?_ ?_ E
  · simp [repsL]
  · intro l p ih
    rw [reps_snoc]
    split
    · simp; omega
    · simp; omega

theorem box_ne_grid {w : World} {x g b : Nat} {t : TypeId} {vs : List Value} {G : Grd} (h : Box w x t vs) (hG : GridAt w g b G) (h1 : t ≠ 133) (h2 : 4 ≠ t) : (some x ≠ some g) ∧ (some x ≠ some b) := by
  refine ⟨fun e => ?_, fun e => ?_⟩
  · injection e with e; subst e; exact h1 (h.1.uniq hG.bx.1)
  · injection e with e; subst e; exact h.ne_own hG.on h2 rfl

theorem own_ne_grid {α : Type} [Enc α] {w : World} {lo g b : Nat} {e : TypeId} {A : Option Addr} {c : Nat} {l : List α} {G : Grd} (h : Own w lo e A c l) (hG : GridAt w g b G) (h1 : e ≠ 133) (h2 : 4 ≠ e) : (blk A ≠ some g) ∧ (blk A ≠ some b) :=
  ⟨hG.bx.ne_own h h1, hG.on.ne_own h h2 (x := b) rfl⟩
/-- parts at work: E are the cells that were there -/
def PrtI (w0 : World) (g gb sg sb xg xs xo : Nat) (G : Grd) (E : List Pt) (w : World) : Prop :=
  ∃ (S' : Grd) (Ao : Option Addr) (co : Nat) (raws : List RawC), (GridAt w sg sb S' ∧ S'.same G ∧ ∀ u v, S'.at u v = unB G.at (repsL G.at E) u v) ∧ GridAt w g gb G ∧
    Box w xg 97 [.pointer (some ⟨g, 0, none⟩)] ∧ Box w xs 97 [.pointer (some ⟨sg, 0, none⟩)] ∧ Box w xo 57 [.slice Ao raws.length co] ∧
    Own w w0.heap.size 34 Ao co raws ∧ CMatch w w0.heap.size raws (partsG G.step G.at E) ∧ w0.grownBy w none

theorem PrtI.pure {w0 w w' : World} {g gb sg sb xg xs xo : Nat} {G : Grd} {E : List Pt} (h : PrtI w0 g gb sg sb xg xs xo G E w) (hg : w.grownBy w' none) : PrtI w0 g gb sg sb xg xs xo G E w' :=
  let ⟨S', Ao, co, raws, ⟨a1, a2, a3⟩, b, c, d, e, f, g, h⟩ := h
  ⟨S', Ao, co, raws, ⟨a1.pure hg, a2, a3⟩, b.pure hg, c.pure hg, d.pure hg, e.pure hg, f.pure hg, g.pure hg, h.t hg⟩

theorem same_none {G S : Grd} (h : S.same G) : (Grd.none G.step G.x G.y G.wide G.high).same G := ⟨rfl, rfl, rfl, rfl, rfl⟩

set_option maxHeartbeats 8000000 in
set_option maxRecDepth 100000 in
theorem partsClo_any (w0 : World) (g gb sg sb xg xs xo : Nat) (G : Grd) (E : List Pt) (px py : Int) (w : World) (h : PrtI w0 g gb sg sb xg xs xo G E w) (hE : ∀ p ∈ E, G.at p.x p.y = true) (hp : G.at px py = true) (hEl : E.length ≤ 1000000)
    (hlo : w0.heap.size ≤ sb ∧ w0.heap.size ≤ xo) (hd : sb ≠ g ∧ sb ≠ gb ∧ xg ≠ xs ∧ xs ≠ xo ∧ xg ≠ xo) :
    Calls Tryz.prog 99 #[.int .i64 px, .int .i64 py, .pointer (some ⟨xs, 0, none⟩), .pointer (some ⟨xg, 0, none⟩), .pointer (some ⟨xo, 0, none⟩)] w fun e w' => e = .returned (.tuple #[]) ∧ PrtI w0 g gb sg sb xg xs xo G (E ++ [⟨px, py⟩]) w' := by
  obtain ⟨S', Ao, co, raws, ⟨a1, a2, a3⟩, hG, hxg, hxs, hxo, hO, hM, hg0⟩ := h
  have hok := hG.ok
  have hpb := at_in_bd2 hok hp
  have hAt := hide (at_any sg sb S' px py w a1 (by omega) (by omega))
  obtain ⟨x0, f0⟩ := hxs.c 0 rfl
  rcases hv : unB G.at (repsL G.at E) px py with _ | _
  rotate_left
  · have hfin : Hid (PrtI w0 g gb sg sb xg xs xo G (E ++ [⟨px, py⟩]) w) := by
      refine ⟨S', Ao, co, raws, ⟨a1, a2, fun u v => ?_⟩, hG, hxg, hxs, hxo, hO, ?_, hg0⟩
      · rw [reps_snoc, hv, if_pos rfl]; exact a3 u v
      · rw [parts_snoc, hv, if_pos rfl]; exact hM
    rw [a3, hv] at hAt
    clear a1 a2 a3 hG hxg hxs hxo hO hM hg0 hv
    go_enter Tryz.func99, Tryz.ntmps99
    go_wp2_with fail
    refine hAt.out.mono ?_
    rintro e w1 ⟨rfl, hg1⟩
    go_wp2_with fail
    refine bodyPost_ret (results_none rfl _ _ _) rfl ?_
    exact ⟨rfl, hfin.out.pure hg1⟩
  · have hNok : (Grd.none G.step G.x G.y G.wide G.high).Ok := ⟨hok.s, hok.x, hok.y, hok.w, hok.h, by simp [Grd.none]⟩
    have hN := hide (fun W => newGrid_any G.step G.x G.y G.wide G.high W hNok)
    rw [a3, hv] at hAt
    clear f0
    go_enter Tryz.func99, Tryz.ntmps99
    go_wp2_with fail
    refine hAt.out.mono ?_
    rintro e w1 ⟨rfl, hg1⟩
    clear hAt x0
    have a1' := a1.pure hg1
    have hG1 := hG.pure hg1
    have hxg1 := hxg.pure hg1
    have hxs1 := hxs.pure hg1
    have hxo1 := hxo.pure hg1
    have hO1 := hO.pure hg1
    have hM1 := hM.pure hg1
    have hg01 := hg0.t hg1
    clear a1 hG hxg hxs hxo hO hM hg0 hg1
    have hcl := hide (fun W (h : w1.grownBy W none) => And.intro ((hxg1.pure h).c 0 rfl).1 (hG1.pure h).cells)
    go_upto_region 1 with fail
    go_cut [7] from 14 to 35 (fun s7 wx => ∃ pg pb, s7 = .pointer (some ⟨pg, 0, none⟩) ∧ GridAt wx pg pb (Grd.none G.step G.x G.y G.wide G.high) ∧ w1.grownBy wx none ∧ w1.heap.size ≤ pg ∧ w1.heap.size ≤ pb)
    case first =>
      refine wp_region_tree (fun wx => w1.grownBy wx none) [1, 2, 2, 1, 1, 2, 2, 1, 1, 2, 2, 1, 1, 2, 2, 1, 1, 2, 2, 1, 0, 2] (.bl 0 (.bl 1 (.bl 2 (.bl 3 (.bl 4 (.bl 5 (.bl 6 (.bl 7 (.bl 8 (.bl 9 (.bl 10 (.bl 11 (.bl 12 (.bl 13 (.bl 14 (.bl 15 (.bl 16 (.bl 17 (.bl 18 (.bl 19 (.ef 20 (.bl 21 .done)))))))))))))))))))))) (by kernel_rfl) (by kernel_rfl) (gr_drew (World.grownBy.refl _ _)) ?_
      obtain ⟨u0, hu0⟩ : ∃ x, x = (w1).drew := ⟨_, rfl⟩
      rw [← hu0]
      have hgu0 : (w1).grownBy u0 none := by rw [hu0]; exact gr_drew (World.grownBy.refl _ _)
      clear hu0
      refine tree_b rfl rfl rfl rfl _ rfl (by simp) (fun K hK => ?_)
      apply Exists.intro
      refine ⟨fun wq hq K' hK' => ?_, ?_⟩
      · obtain ⟨m0, d0, d1, d2, d3, d4, -⟩ := hcl.out wq hq
        go_wp2_with fail
        exact hK'
      go_simp
      refine hK _ ?_
      clear hK K
      refine tree_n rfl rfl _ rfl _ rfl ?_
      try go_simp
      refine tree_p rfl rfl rfl rfl _ rfl (by simp) (fun K hK => ?_)
      apply Exists.intro
      refine ⟨fun wq K' hK' => ?_, ?_⟩
      · go_wp2_with fail
        exact hK'
      go_simp
      refine hK _ ?_
      clear hK K
      refine tree_b rfl rfl rfl rfl _ rfl (by simp) (fun K hK => ?_)
      apply Exists.intro
      refine ⟨fun wq hq K' hK' => ?_, ?_⟩
      · obtain ⟨m0, d0, d1, d2, d3, d4, -⟩ := hcl.out wq hq
        go_wp2_with fail
        exact hK'
      go_simp
      refine hK _ ?_
      clear hK K
      refine tree_b rfl rfl rfl rfl _ rfl (by simp) (fun K hK => ?_)
      apply Exists.intro
      refine ⟨fun wq hq K' hK' => ?_, ?_⟩
      · obtain ⟨m0, d0, d1, d2, d3, d4, -⟩ := hcl.out wq hq
        go_wp2_with fail
        exact hK'
      go_simp
      refine hK _ ?_
      clear hK K
      refine tree_n rfl rfl _ rfl _ rfl ?_
      try go_simp
      refine tree_p rfl rfl rfl rfl _ rfl (by simp) (fun K hK => ?_)
      apply Exists.intro
      refine ⟨fun wq K' hK' => ?_, ?_⟩
      · go_wp2_with fail
        exact hK'
      go_simp
      refine hK _ ?_
      clear hK K
      refine tree_b rfl rfl rfl rfl _ rfl (by simp) (fun K hK => ?_)
      apply Exists.intro
      refine ⟨fun wq hq K' hK' => ?_, ?_⟩
      · obtain ⟨m0, d0, d1, d2, d3, d4, -⟩ := hcl.out wq hq
        go_wp2_with fail
        exact hK'
      go_simp
      refine hK _ ?_
      clear hK K
      refine tree_b rfl rfl rfl rfl _ rfl (by simp) (fun K hK => ?_)
      apply Exists.intro
      refine ⟨fun wq hq K' hK' => ?_, ?_⟩
      · obtain ⟨m0, d0, d1, d2, d3, d4, -⟩ := hcl.out wq hq
        go_wp2_with fail
        exact hK'
      go_simp
      refine hK _ ?_
      clear hK K
      refine tree_n rfl rfl _ rfl _ rfl ?_
      try go_simp
      refine tree_p rfl rfl rfl rfl _ rfl (by simp) (fun K hK => ?_)
      apply Exists.intro
      refine ⟨fun wq K' hK' => ?_, ?_⟩
      · go_wp2_with fail
        exact hK'
      go_simp
      refine hK _ ?_
      clear hK K
      refine tree_b rfl rfl rfl rfl _ rfl (by simp) (fun K hK => ?_)
      apply Exists.intro
      refine ⟨fun wq hq K' hK' => ?_, ?_⟩
      · obtain ⟨m0, d0, d1, d2, d3, d4, -⟩ := hcl.out wq hq
        go_wp2_with fail
        exact hK'
      go_simp
      refine hK _ ?_
      clear hK K
      refine tree_b rfl rfl rfl rfl _ rfl (by simp) (fun K hK => ?_)
      apply Exists.intro
      refine ⟨fun wq hq K' hK' => ?_, ?_⟩
      · obtain ⟨m0, d0, d1, d2, d3, d4, -⟩ := hcl.out wq hq
        go_wp2_with fail
        exact hK'
      go_simp
      refine hK _ ?_
      clear hK K
      refine tree_n rfl rfl _ rfl _ rfl ?_
      try go_simp
      refine tree_p rfl rfl rfl rfl _ rfl (by simp) (fun K hK => ?_)
      apply Exists.intro
      refine ⟨fun wq K' hK' => ?_, ?_⟩
      · go_wp2_with fail
        exact hK'
      go_simp
      refine hK _ ?_
      clear hK K
      refine tree_b rfl rfl rfl rfl _ rfl (by simp) (fun K hK => ?_)
      apply Exists.intro
      refine ⟨fun wq hq K' hK' => ?_, ?_⟩
      · obtain ⟨m0, d0, d1, d2, d3, d4, -⟩ := hcl.out wq hq
        go_wp2_with fail
        exact hK'
      go_simp
      refine hK _ ?_
      clear hK K
      refine tree_b rfl rfl rfl rfl _ rfl (by simp) (fun K hK => ?_)
      apply Exists.intro
      refine ⟨fun wq hq K' hK' => ?_, ?_⟩
      · obtain ⟨m0, d0, d1, d2, d3, d4, -⟩ := hcl.out wq hq
        go_wp2_with fail
        exact hK'
      go_simp
      refine hK _ ?_
      clear hK K
      refine tree_n rfl rfl _ rfl _ rfl ?_
      try go_simp
      refine tree_p rfl rfl rfl rfl _ rfl (by simp) (fun K hK => ?_)
      apply Exists.intro
      refine ⟨fun wq K' hK' => ?_, ?_⟩
      · go_wp2_with fail
        exact hK'
      go_simp
      refine hK _ ?_
      clear hK K
      refine tree_b rfl rfl rfl rfl _ rfl (by simp) (fun K hK => ?_)
      apply Exists.intro
      refine ⟨fun wq hq K' hK' => ?_, ?_⟩
      · obtain ⟨m0, d0, d1, d2, d3, d4, -⟩ := hcl.out wq hq
        go_wp2_with fail
        exact hK'
      go_simp
      refine hK _ ?_
      clear hK K
      refine tree_e0 (by kernel_rfl) rfl rfl (fun K hK => ?_)
      go_wp2_with fail
      refine (hN.out u0).mono ?_
      rintro e w20 ⟨pg, pb, rfl, hGp, hg20, hgg, hgb⟩
      go_wp2_with fail
      try go_simp
      refine hK _ _ trivial ?_
      clear hK K
      refine tree_p rfl rfl rfl rfl _ rfl (by simp) (fun K hK => ?_)
      apply Exists.intro
      refine ⟨fun wq K' hK' => ?_, ?_⟩
      · go_wp2_with fail
        exact hK'
      go_simp
      refine hK _ ?_
      clear hK K
      refine tree_done ?_
      go_wp2_with fail
      go_meet
      have := hgu0.size
      exact ⟨pg, pb, rfl, hGp, gr_trans hgu0 hg20, by omega, by omega⟩
    case rest =>
    obtain ⟨pg, pb, rfl, hGp, hgc, hpg, hpb2⟩ := hcut
    generalize hwq : wc = w2 at *
    clear hwq hN hcl
    have l1 := a1'.lt
    have l2 := hG1.lt
    have l3 := hxg1.lt
    have l4 := hxs1.lt
    have l5 := hxo1.lt
    have a2' := a1'.pure hgc
    have s0 := a2'.on
    have hG2 := hG1.pure hgc
    have hxg2 := hxg1.pure hgc
    have hxs2 := hxs1.pure hgc
    have hxo2 := hxo1.pure hgc
    have hO2 := hO1.pure hgc
    have hM2 := hM1.pure hgc
    have hg02 := hg01.t hgc
    clear a1' hG1 hxg1 hxs1 hxo1 hO1 hM1 hg01 hgc
    obtain ⟨x0, -⟩ := hxs2.c 0 rfl
    obtain ⟨x1, -⟩ := hxg2.c 0 rfl
    have hFl := hide (flood_any g gb G sg sb S' pg pb (Grd.none G.step G.x G.y G.wide G.high) px py w2 hG2 a2' hGp a2 (same_none a2) (fun u v => Grd.none_at)
      (fun p q hq _ hp2 hV => by rw [a3] at hV ⊢; exact un_closed hq hp2 hV) hp (by rw [a3]; exact hv) ⟨by omega, by omega, by omega, hd.1, hd.2.1, by omega, by omega⟩)
    go_wp2_with fail
    refine hFl.out.mono ?_
    rintro e w3 ⟨rfl, S3, P3, ⟨s1, s2, s3⟩, ⟨p1, p2, p3⟩, hg23⟩
    clear x0 x1 hFl a2'
    have hG3 : GridAt w3 g gb G := ⟨hok, hg23.box hG2.bx hd.1 (by omega), hg23.ownF hG2.on hd.2.1 (by omega)⟩
    have hnb : sb ≠ xg ∧ sb ≠ xs ∧ sb ≠ xo := ⟨fun e => hxg2.ne_own s0 (by decide) (by rw [e]; rfl), fun e => hxs2.ne_own s0 (by decide) (by rw [e]; rfl), fun e => hxo2.ne_own s0 (by decide) (by rw [e]; rfl)⟩
    have hxg3 := hg23.box hxg2 hnb.1 (by omega)
    have hxs3 := hg23.box hxs2 hnb.2.1 (by omega)
    have hxo3 := hg23.box hxo2 hnb.2.2 (by omega)
    have hM3 := hM2.gr2 hg23 (s0.typ (g := sb) rfl) (hGp.on.typ (g := pb) rfl)
    have hO3 : Own w3 w0.heap.size 34 Ao co raws := by
      rcases Own.cases2 hO2 with ⟨rfl, rfl, rfl⟩ | ⟨q, rfl⟩
      · exact Own.nil _ _ _
      · refine hg23.ownF hO2 (fun e => ?_) (fun e => ?_)
        · subst e; exact absurd ((hO2.typ rfl).uniq (s0.typ (g := sb) rfl)) (by decide)
        · subst e; exact absurd ((hO2.typ rfl).uniq (hGp.on.typ (g := pb) rfl)) (by decide)
    have hg03 := hg23.new hg02 hlo.1 (by have := hg02.size; omega)
    have hsz3 := hg03.size
    have hCc := hide (gridCells_any pg pb P3 w3 p1)
    clear hG2 hxg2 hxs2 hxo2 hM2 hO2 hg02 hGp hg23 s0
    go_wp2_with fail
    refine hCc.out.mono ?_
    rintro e w4 ⟨cl, er, C, cc, rfl, hIs, hOc, hg4⟩
    have hce : Hid (celOf G.step (compB G.at ⟨px, py⟩) = cl) := by
      have h2 := hIs.congr p3
      rw [p2.1] at h2
      exact celOf_eq h2
    obtain ⟨n, hn⟩ : ∃ n, n = cl.rows.length := ⟨_, rfl⟩
    rw [← hn]
    replace hn := hide hn
    have s1' := s1.pure hg4
    have hG4 := hG3.pure hg4
    have hxg4 := hxg3.pure hg4
    have hxs4 := hxs3.pure hg4
    have hxo4 := hxo3.pure hg4
    have hM4 := hM3.pure hg4
    have hO4 := hO3.pure hg4
    have hg04 := hg03.t hg4
    have hOc4 := hOc.lower hsz3
    clear hCc s1 hG3 hxg3 hxs3 hxo3 hM3 hO3 hg03 hIs hOc hg4
    go_upto_region 4 with fail
    obtain ⟨w8, hw8⟩ : ∃ x, x = (w4).alloc (.cells [.int .i64 (cl).step, .int .i64 (cl).x, .int .i64 (cl).y, .slice C n cc].toArray 34) := ⟨_, rfl⟩
    have hg8 : (w4).grownBy w8 none := by rw [hw8]; exact gr_alloc (World.grownBy.refl _ _) _
    have hb8 : Box w8 (w4).heap.size 34 [.int .i64 (cl).step, .int .i64 (cl).x, .int .i64 (cl).y, .slice C n cc] := by rw [hw8]; exact Box.new _ _ _
    have hxs8 := hb8.lt
    rw [← hw8]
    clear hw8
    obtain ⟨x8, hx8⟩ : ∃ x, x = (w4).heap.size := ⟨_, rfl⟩
    rw [← hx8] at hb8 hxs8 ⊢
    have hxl8 : (w4).heap.size ≤ x8 := by omega
    clear hx8
    have s8 := s1'.pure hg8
    have hG8 := hG4.pure hg8
    have hxg8 := hxg4.pure hg8
    have hxs8 := hxs4.pure hg8
    have hxo8 := hxo4.pure hg8
    have hM8 := hM4.pure hg8
    have hO8 := hO4.pure hg8
    have hg08 := hg04.t hg8
    have hOc8 := hOc4.pure hg8
    have hrl : raws.length ≤ 1000000 := by
      have h1 := hM8.1
      have h2 := reps_len G.at E
      have h3 : (partsG G.step G.at E).length = (repsL G.at E).length := by unfold partsG; rw [List.length_map]
      omega
    obtain ⟨b0, -⟩ := hxo8.c 0 rfl
    obtain ⟨⟨e0, -⟩, ⟨e1, -⟩, ⟨e2, -⟩, ⟨e3, -⟩⟩ := box4_c hb8
    obtain ⟨i0, hi, hz, h1, h2⟩ := info_parts info_celP
    replace hi := hide hi
    replace hz := hide hz
    replace h1 := hide h1
    replace h2 := hide h2
    clear s1' hG4 hxg4 hxs4 hxo4 hM4 hO4 hg04 hOc4 hg8
    have hsz8 := hg08.size
    go_wp2_with (at_builtin; refine wpList_pushAt (α := RawC) _ rfl (.tmp 47) (.tmp 49) _ rfl w0.heap.size 34 i0 _ 48 Tryz.underlying57 hi.out hz.out h1.out h2.out rfl _ _ _ raws rfl rfl (by exact hO8.pure (gr_alloc (World.grownBy.refl _ _) _)) 0 ⟨_, 0, none⟩ 1 1 [⟨cl.step, cl.x, cl.y, C, n, cc⟩] rfl rfl (by exact sl_oneAt _ 0 [.int .i64 (cl).step, .int .i64 (cl).x, .int .i64 (cl).y, .slice C n cc] _ _ _ (by first | rfl | simp) (Nat.zero_le _) rfl) ?c2 ?c3 ?c4 ?_)
    case c2 => simp; omega
    case c3 => simp [maxLen]; omega
    case c4 => simp; omega
    intro A' c' wz hOz hGz
    have hgA := gr_alloc (World.grownBy.refl w8 none) (.cells #[.int .i64 cl.step, .int .i64 cl.x, .int .i64 cl.y, .slice C n cc] 34)
    obtain ⟨n1, n2⟩ := own_ne_grid hO8 s8 (by decide) (by decide)
    obtain ⟨n3, n4⟩ := own_ne_grid hO8 hG8 (by decide) (by decide)
    have s9 := (s8.pure hgA).gr hGz.1 n1 n2
    have hG9 := (hG8.pure hgA).gr hGz.1 n3 n4
    have hxg9 := (hxg8.pure hgA).gr hGz.1 (hxg8.ne_own hO8 (by decide))
    have hxs9 := (hxs8.pure hgA).gr hGz.1 (hxs8.ne_own hO8 (by decide))
    have hxo9 := (hxo8.pure hgA).gr hGz.1 (hxo8.ne_own hO8 (by decide))
    have hM9 := ((hM8.push (c := cl) (A := C) (cc := cc) hOc8).pure hgA).keep hGz.1 (fun A c rows ho x hx => ho.ne_own (hO8.pure hgA) (by decide) hx)
    have hg09 := gr_row (hg08.t hgA) hGz.1 (fun x e => (hO8.blk_lt e).1)
    obtain ⟨b1, b2⟩ := hxo9.c 0 rfl
    have hraw : Hid (rawOf cl C cc = ⟨cl.step, cl.x, cl.y, C, n, cc⟩) := by rw [Hid, hn.out]; rfl
    rw [hraw.out] at hM9
    have hln : Hid ((raws ++ [(⟨cl.step, cl.x, cl.y, C, n, cc⟩ : RawC)]).length = raws.length + 1) := by rw [Hid, List.length_append]; rfl
    clear s8 hG8 hxg8 hxs8 hxo8 hM8 hO8 hg08 hOc8 hgA hGz b0 e0 e1 e2 e3 n1 n2 n3 n4
    obtain ⟨R, hR⟩ : ∃ R, R = raws ++ [(⟨cl.step, cl.x, cl.y, C, n, cc⟩ : RawC)] := ⟨_, rfl⟩
    rw [← hR] at hOz hM9 hln
    replace hR := hide hR
    clear hrl
    go_wp2_with fail
    rw [← hln.out]
    clear hln
    have hgs := gr_set (World.grownBy.refl wz (some xo)) (p := ⟨xo, 0, none⟩) (.inl rfl) (.slice A' R.length c')
    obtain ⟨n1, n2⟩ := box_ne_grid hxo9 s9 (by decide) (by decide)
    obtain ⟨n3, n4⟩ := box_ne_grid hxo9 hG9 (by decide) (by decide)
    have s10 := s9.gr hgs n1 n2
    have hG10 := hG9.gr hgs n3 n4
    have hxg10 := hxg9.gr hgs (by intro e; injection e with e; exact hd.2.2.2.2 e.symm)
    have hxs10 := hxs9.gr hgs (by intro e; injection e with e; exact hd.2.2.2.1 e.symm)
    have hO10 := hOz.ne hgs (fun x hx e => hxo9.ne_own hOz (by decide) (by rw [hx, ← e]))
    have hM10 := hM9.keep hgs (fun A c rows ho x hx e => hxo9.ne_own ho (by decide) (by rw [hx, ← e]))
    have hg10 := gr_new hg09 hgs hlo.2
    have hxo10 := hxo9.set_ 0 (.slice A' R.length c') (by simp)
    go_end0
    refine ⟨rfl, S3, A', c', R, ⟨s10, s2, fun u v => ?_⟩, hG10, hxg10, hxs10, hxo10, hO10, ?_, hg10⟩
    · rw [reps_snoc, if_neg (by rw [hv]; simp), s3, a3, unB_snoc]
    · rw [parts_snoc, if_neg (by rw [hv]; simp), hce.out]
      exact hM10

end Go.Proofs.YtgcpegjggakemaaGreatDoor

namespace Go.Bl
open Go

theorem cellsG_len (G : Grd) (k : Nat) : (cellsG G k).length ≤ k := by
  unfold cellsG
  rw [List.length_map]
  have := List.length_filter_le (fun i => G.on.getD i false) (List.range k)
  rwa [List.length_range] at this

/-- the parts of right cells -/
noncomputable def partsC (c : Cel) : List Cel := partsG c.step (gridOf c).at (cellsG (gridOf c) (gridOf c).on.length)

noncomputable def partsV (c : Cel) : List Cel := if cellsF c = 0 then partsC c else []

end Go.Bl
namespace Go.Proofs.YtgcpegjggakemaaGreatDoor
open Go Go.RowKit Go.Bl

/-- what region.Parts leaves -/
def PartsOut (w0 w : World) (F : Int) (cs : List Cel) (e : Ending) : Prop :=
  ∃ (Ao : Option Addr) (co : Nat) (raws : List RawC), e = .returned (.tuple #[.slice Ao raws.length co, .int .i64 F]) ∧ Own w w0.heap.size 34 Ao co raws ∧ CMatch w w0.heap.size raws cs ∧ w0.grownBy w none

set_option maxHeartbeats 8000000 in
set_option maxRecDepth 100000 in
theorem parts_any (c : Cel) (A : Option Addr) (n cc : Nat) (w : World) (ha : CArg w c A n) :
    Calls Tryz.prog 27 #[.agg #[.int .i64 (c).step, .int .i64 (c).x, .int .i64 (c).y, .slice A n cc]] w fun e w' => PartsOut w w' (cellsF c) (partsV c) e := by
  have hCh := hide (fun W (h : w.grownBy W none) => checkArg_any c A n cc W (ha.pure h))
  have hGr := hide (fun W (h : w.grownBy W none) (hok : CellsOk c) => gridArg_any c A n cc W (ha.pure h) hok)
  clear ha
  have hok' : Hid (cellsF c = 0 ↔ CellsOk c) := cells_ok
  go_enter Tryz.func27, Tryz.ntmps27
  go_upto_region 1 with fail
  obtain ⟨w1, hw1⟩ : ∃ x, x = (w).alloc (.cells [.int .i64 (c).step, .int .i64 (c).x, .int .i64 (c).y, .slice A n cc].toArray 34) := ⟨_, rfl⟩
  have hg1 : (w).grownBy w1 none := by rw [hw1]; exact gr_alloc (World.grownBy.refl _ _) _
  have hb1 : Box w1 (w).heap.size 34 [.int .i64 (c).step, .int .i64 (c).x, .int .i64 (c).y, .slice A n cc] := by rw [hw1]; exact Box.new _ _ _
  have hxs1 := hb1.lt
  rw [← hw1]
  clear hw1
  obtain ⟨x1, hx1⟩ : ∃ x, x = (w).heap.size := ⟨_, rfl⟩
  rw [← hx1] at hb1 hxs1 ⊢
  have hxl1 : (w).heap.size ≤ x1 := by omega
  clear hx1
  obtain ⟨⟨a0, -⟩, ⟨a1, -⟩, ⟨a2, -⟩, ⟨a3, -⟩⟩ := box4_c hb1
  go_wp2_with fail
  refine (hCh.out w1 hg1).mono ?_
  rintro e w2 ⟨rfl, hg2⟩
  clear a0 a1 a2 a3 hCh
  have hgw2 := hg1.t hg2
  replace hb1 := hb1.pure hg2
  obtain ⟨F, hF⟩ : ∃ F, cellsF c = F := ⟨_, rfl⟩
  have hPv : Hid (partsV c = if F = 0 then partsC c else []) := by rw [Hid, partsV, hF]
  rw [hF] at hok' ⊢
  rcases hz : (F == 0) with _ | _
  · have hne : F ≠ 0 := by simpa using hz
    have hz' : (F != 0) = true := by simp [hne]
    have hif : Hid (partsV c = []) := by rw [Hid, hPv.out, if_neg hne]
    replace hF := hide hF
    clear hok' hne hPv
    go_wp2_with fail
    go_ret2
    exact ⟨none, 0, [], by rw [hF.out]; rfl, Own.nil _ _ _, by rw [hif.out]; exact CMatch.nil, hgw2⟩
  have hF0 : F = 0 := by simpa using hz
  subst hF0
  replace hF := hide hF
  have ok := hide (hok'.out.1 rfl)
  have hif : Hid (partsV c = partsC c) := by rw [Hid, hPv.out, if_pos rfl]
  clear hPv
  have hPc : Hid (partsC c = partsG c.step (gridOf c).at (cellsG (gridOf c) (gridOf c).on.length)) := rfl
  obtain ⟨G, hGe⟩ : ∃ G, G = gridOf c := ⟨_, rfl⟩
  rw [← hGe] at hPc hGr
  have hGs : Hid (G.step = c.step) := by rw [Hid, hGe]; rfl
  clear hz hok' hg1 hg2 hGe
  obtain ⟨⟨a0, -⟩, ⟨a1, -⟩, ⟨a2, -⟩, ⟨a3, -⟩⟩ := box4_c hb1
  go_wp2_with fail
  refine (hGr.out w2 hgw2 ok.out).mono ?_
  rintro e w3 ⟨g, gb, rfl, hG, hg3, hgg, hgb⟩
  have hgw3 := hgw2.t hg3
  clear a0 a1 a2 a3 hGr hb1 hg3
  go_upto_region 5 with fail
  obtain ⟨w5, hw5⟩ : ∃ x, x = (w3).alloc (.cells [.pointer (some ⟨g, 0, none⟩)].toArray 97) := ⟨_, rfl⟩
  have hg5 : (w3).grownBy w5 none := by rw [hw5]; exact gr_alloc (World.grownBy.refl _ _) _
  have hb5 : Box w5 (w3).heap.size 97 [.pointer (some ⟨g, 0, none⟩)] := by rw [hw5]; exact Box.new _ _ _
  have hxs5 := hb5.lt
  rw [← hw5]
  clear hw5
  obtain ⟨x5, hx5⟩ : ∃ x, x = (w3).heap.size := ⟨_, rfl⟩
  rw [← hx5] at hb5 hxs5 ⊢
  have hxl5 : (w3).heap.size ≤ x5 := by omega
  clear hx5
  have hG5 := hG.pure hg5
  have hgw5 := hgw3.t hg5
  have hsz2 := hgw2.size
  have hsz5 := hgw5.size
  have hok := hG5.ok
  have hNok : (Grd.none G.step G.x G.y G.wide G.high).Ok := ⟨hok.s, hok.x, hok.y, hok.w, hok.h, by simp [Grd.none]⟩
  have hN := hide (fun W => newGrid_any G.step G.x G.y G.wide G.high W hNok)
  have hcl := hide (fun W (h : w5.grownBy W none) => And.intro ((hb5.pure h).c 0 rfl).1 (hG5.pure h).cells)
  have hlg := hG5.lt
  clear hG hg5 hNok
  go_cut [6] from 15 to 36 (fun s6 wx => ∃ x6 sg sb, s6 = .pointer (some ⟨x6, 0, none⟩) ∧ Box wx x6 97 [.pointer (some ⟨sg, 0, none⟩)] ∧ GridAt wx sg sb (Grd.none G.step G.x G.y G.wide G.high) ∧ w5.grownBy wx none ∧ w5.heap.size ≤ x6 ∧ w5.heap.size ≤ sg ∧ w5.heap.size ≤ sb)
  case first =>
    refine wp_region_tree (fun wx => w5.grownBy wx none) [1, 2, 2, 1, 1, 2, 2, 1, 1, 2, 2, 1, 1, 2, 2, 1, 1, 2, 2, 1, 0, 0, 0] (.bl 0 (.bl 1 (.bl 2 (.bl 3 (.bl 4 (.bl 5 (.bl 6 (.bl 7 (.bl 8 (.bl 9 (.bl 10 (.bl 11 (.bl 12 (.bl 13 (.bl 14 (.bl 15 (.bl 16 (.bl 17 (.bl 18 (.bl 19 (.alt (.ef 20 (.ef 21 (.ef 22 .done))) (.ef 21 (.ef 20 (.ef 22 .done)))))))))))))))))))))))) (by kernel_rfl) (by kernel_rfl) (gr_drew (World.grownBy.refl _ _)) ?_
    obtain ⟨u0, hu0⟩ : ∃ x, x = (w5).drew := ⟨_, rfl⟩
    rw [← hu0]
    have hgu0 : (w5).grownBy u0 none := by rw [hu0]; exact gr_drew (World.grownBy.refl _ _)
    clear hu0
    refine tree_b rfl rfl rfl rfl _ rfl (by simp) (fun K hK => ?_)
    apply Exists.intro
    refine ⟨fun wq hq K' hK' => ?_, ?_⟩
    · obtain ⟨m0, d0, d1, d2, d3, d4, -⟩ := hcl.out wq hq
      go_wp2_with fail
      exact hK'
    go_simp
    refine hK _ ?_
    clear hK K
    refine tree_n rfl rfl _ rfl _ rfl ?_
    try go_simp
    refine tree_p rfl rfl rfl rfl _ rfl (by simp) (fun K hK => ?_)
    apply Exists.intro
    refine ⟨fun wq K' hK' => ?_, ?_⟩
    · go_wp2_with fail
      exact hK'
    go_simp
    refine hK _ ?_
    clear hK K
    refine tree_b rfl rfl rfl rfl _ rfl (by simp) (fun K hK => ?_)
    apply Exists.intro
    refine ⟨fun wq hq K' hK' => ?_, ?_⟩
    · obtain ⟨m0, d0, d1, d2, d3, d4, -⟩ := hcl.out wq hq
      go_wp2_with fail
      exact hK'
    go_simp
    refine hK _ ?_
    clear hK K
    refine tree_b rfl rfl rfl rfl _ rfl (by simp) (fun K hK => ?_)
    apply Exists.intro
    refine ⟨fun wq hq K' hK' => ?_, ?_⟩
    · obtain ⟨m0, d0, d1, d2, d3, d4, -⟩ := hcl.out wq hq
      go_wp2_with fail
      exact hK'
    go_simp
    refine hK _ ?_
    clear hK K
    refine tree_n rfl rfl _ rfl _ rfl ?_
    try go_simp
    refine tree_p rfl rfl rfl rfl _ rfl (by simp) (fun K hK => ?_)
    apply Exists.intro
    refine ⟨fun wq K' hK' => ?_, ?_⟩
    · go_wp2_with fail
      exact hK'
    go_simp
    refine hK _ ?_
    clear hK K
    refine tree_b rfl rfl rfl rfl _ rfl (by simp) (fun K hK => ?_)
    apply Exists.intro
    refine ⟨fun wq hq K' hK' => ?_, ?_⟩
    · obtain ⟨m0, d0, d1, d2, d3, d4, -⟩ := hcl.out wq hq
      go_wp2_with fail
      exact hK'
    go_simp
    refine hK _ ?_
    clear hK K
    refine tree_b rfl rfl rfl rfl _ rfl (by simp) (fun K hK => ?_)
    apply Exists.intro
    refine ⟨fun wq hq K' hK' => ?_, ?_⟩
    · obtain ⟨m0, d0, d1, d2, d3, d4, -⟩ := hcl.out wq hq
      go_wp2_with fail
      exact hK'
    go_simp
    refine hK _ ?_
    clear hK K
    refine tree_n rfl rfl _ rfl _ rfl ?_
    try go_simp
    refine tree_p rfl rfl rfl rfl _ rfl (by simp) (fun K hK => ?_)
    apply Exists.intro
    refine ⟨fun wq K' hK' => ?_, ?_⟩
    · go_wp2_with fail
      exact hK'
    go_simp
    refine hK _ ?_
    clear hK K
    refine tree_b rfl rfl rfl rfl _ rfl (by simp) (fun K hK => ?_)
    apply Exists.intro
    refine ⟨fun wq hq K' hK' => ?_, ?_⟩
    · obtain ⟨m0, d0, d1, d2, d3, d4, -⟩ := hcl.out wq hq
      go_wp2_with fail
      exact hK'
    go_simp
    refine hK _ ?_
    clear hK K
    refine tree_b rfl rfl rfl rfl _ rfl (by simp) (fun K hK => ?_)
    apply Exists.intro
    refine ⟨fun wq hq K' hK' => ?_, ?_⟩
    · obtain ⟨m0, d0, d1, d2, d3, d4, -⟩ := hcl.out wq hq
      go_wp2_with fail
      exact hK'
    go_simp
    refine hK _ ?_
    clear hK K
    refine tree_n rfl rfl _ rfl _ rfl ?_
    try go_simp
    refine tree_p rfl rfl rfl rfl _ rfl (by simp) (fun K hK => ?_)
    apply Exists.intro
    refine ⟨fun wq K' hK' => ?_, ?_⟩
    · go_wp2_with fail
      exact hK'
    go_simp
    refine hK _ ?_
    clear hK K
    refine tree_b rfl rfl rfl rfl _ rfl (by simp) (fun K hK => ?_)
    apply Exists.intro
    refine ⟨fun wq hq K' hK' => ?_, ?_⟩
    · obtain ⟨m0, d0, d1, d2, d3, d4, -⟩ := hcl.out wq hq
      go_wp2_with fail
      exact hK'
    go_simp
    refine hK _ ?_
    clear hK K
    refine tree_b rfl rfl rfl rfl _ rfl (by simp) (fun K hK => ?_)
    apply Exists.intro
    refine ⟨fun wq hq K' hK' => ?_, ?_⟩
    · obtain ⟨m0, d0, d1, d2, d3, d4, -⟩ := hcl.out wq hq
      go_wp2_with fail
      exact hK'
    go_simp
    refine hK _ ?_
    clear hK K
    refine tree_n rfl rfl _ rfl _ rfl ?_
    try go_simp
    refine tree_p rfl rfl rfl rfl _ rfl (by simp) (fun K hK => ?_)
    apply Exists.intro
    refine ⟨fun wq K' hK' => ?_, ?_⟩
    · go_wp2_with fail
      exact hK'
    go_simp
    refine hK _ ?_
    clear hK K
    refine tree_b rfl rfl rfl rfl _ rfl (by simp) (fun K hK => ?_)
    apply Exists.intro
    refine ⟨fun wq hq K' hK' => ?_, ?_⟩
    · obtain ⟨m0, d0, d1, d2, d3, d4, -⟩ := hcl.out wq hq
      go_wp2_with fail
      exact hK'
    go_simp
    refine hK _ ?_
    clear hK K
    refine tree_alt ?_ ?_
    · refine tree_e0 (by kernel_rfl) rfl rfl (fun K hK => ?_)
      go_wp2_with fail
      refine (hN.out u0).mono ?_
      rintro e w20 ⟨gg, gb2, rfl, hG20, hg20, hgg2, hgb2⟩
      go_wp2_with fail
      try go_simp
      refine hK _ _ trivial ?_
      clear hK K
      refine tree_e rfl rfl (fun K hK => ?_)
      go_wp2_with fail
      try go_simp
      refine hK _ _ (gr_alloc (gr_trans hgu0 hg20) _) ?_
      clear hK K
      obtain ⟨w21, hw21⟩ : ∃ x, x = (w20).alloc (.cells [.pointer none].toArray 97) := ⟨_, rfl⟩
      have hg21 : (w20).grownBy w21 none := by rw [hw21]; exact gr_alloc (World.grownBy.refl _ _) _
      have hb21 : Box w21 (w20).heap.size 97 [.pointer none] := by rw [hw21]; exact Box.new _ _ _
      rw [← hw21]
      clear hw21
      obtain ⟨x21, hx21⟩ : ∃ x, x = (w20).heap.size := ⟨_, rfl⟩
      rw [← hx21] at hb21 ⊢
      have hxl21 : (w20).heap.size ≤ x21 := by omega
      clear hx21
      refine tree_e0 (by kernel_rfl) rfl rfl (fun K hK => ?_)
      have hb22 := hb21.pure (w' := w21) (World.grownBy.refl _ _)
      obtain ⟨m0, f0⟩ := hb22.c 0 rfl
      have hG22 := hG20.pure (w' := w21) hg21
      have hgw22 := gr_trans hgu0 (gr_trans hg20 hg21)
      go_wp2_with fail
      try go_simp
      refine hK _ _ trivial ?_
      clear hK K
      refine tree_done ?_
      have hne1 : x21 ≠ gg := fun e => by
        have h1 := hG22.bx.1
        rw [← e] at h1
        exact absurd (h1.uniq hb22.1) (by decide)
      have hne2 : x21 ≠ gb2 := fun e => hb22.ne_own hG22.on (by decide) (by rw [e]; rfl)
      have hle := hgu0.size
      have hle1 := hg20.size
      have hle2 := hg21.size
      have hbz := hb22.set_ 0 (.pointer (some ⟨gg, 0, none⟩)) (by simp)
      have hGz := hG22.gr (gr_set (World.grownBy.refl w21 (some x21)) (p := ⟨x21, 0, none⟩) (.inl rfl) (.pointer (some ⟨gg, 0, none⟩))) (by intro e; injection e with e; exact hne1 e) (by intro e; injection e with e; exact hne2 e)
      have hgz := gr_set hgw22 (p := ⟨x21, 0, none⟩) (.inr (by show w5.heap.size ≤ x21; omega)) (.pointer (some ⟨gg, 0, none⟩))
      generalize (w21).setCell ⟨x21, 0, none⟩ (.pointer (some ⟨gg, 0, none⟩)) = wz at *
      clear m0 f0
      go_wp2_with fail
      go_meet
      exact ⟨x21, gg, gb2, rfl, hbz, hGz, hgz, by omega, by omega, by omega⟩
    · refine tree_e rfl rfl (fun K hK => ?_)
      go_wp2_with fail
      try go_simp
      refine hK _ _ (gr_alloc (gr_trans hgu0 (World.grownBy.refl _ _)) _) ?_
      clear hK K
      obtain ⟨w21, hw21⟩ : ∃ x, x = (u0).alloc (.cells [.pointer none].toArray 97) := ⟨_, rfl⟩
      have hg21 : (u0).grownBy w21 none := by rw [hw21]; exact gr_alloc (World.grownBy.refl _ _) _
      have hb21 : Box w21 (u0).heap.size 97 [.pointer none] := by rw [hw21]; exact Box.new _ _ _
      rw [← hw21]
      clear hw21
      obtain ⟨x21, hx21⟩ : ∃ x, x = (u0).heap.size := ⟨_, rfl⟩
      rw [← hx21] at hb21 ⊢
      have hxl21 : (u0).heap.size ≤ x21 := by omega
      clear hx21
      refine tree_e0 (by kernel_rfl) rfl rfl (fun K hK => ?_)
      go_wp2_with fail
      refine (hN.out w21).mono ?_
      rintro e w20 ⟨gg, gb2, rfl, hG20, hg20, hgg2, hgb2⟩
      go_wp2_with fail
      try go_simp
      refine hK _ _ trivial ?_
      clear hK K
      refine tree_e0 (by kernel_rfl) rfl rfl (fun K hK => ?_)
      have hb22 := hb21.pure (w' := w20) hg20
      obtain ⟨m0, f0⟩ := hb22.c 0 rfl
      have hG22 := hG20.pure (w' := w20) (World.grownBy.refl _ _)
      have hgw22 := gr_trans hgu0 (gr_trans hg21 hg20)
      go_wp2_with fail
      try go_simp
      refine hK _ _ trivial ?_
      clear hK K
      refine tree_done ?_
      have hne1 : x21 ≠ gg := fun e => by
        have h1 := hG22.bx.1
        rw [← e] at h1
        exact absurd (h1.uniq hb22.1) (by decide)
      have hne2 : x21 ≠ gb2 := fun e => hb22.ne_own hG22.on (by decide) (by rw [e]; rfl)
      have hle := hgu0.size
      have hle1 := hg20.size
      have hle2 := hg21.size
      have hbz := hb22.set_ 0 (.pointer (some ⟨gg, 0, none⟩)) (by simp)
      have hGz := hG22.gr (gr_set (World.grownBy.refl w20 (some x21)) (p := ⟨x21, 0, none⟩) (.inl rfl) (.pointer (some ⟨gg, 0, none⟩))) (by intro e; injection e with e; exact hne1 e) (by intro e; injection e with e; exact hne2 e)
      have hgz := gr_set hgw22 (p := ⟨x21, 0, none⟩) (.inr (by show w5.heap.size ≤ x21; omega)) (.pointer (some ⟨gg, 0, none⟩))
      generalize (w20).setCell ⟨x21, 0, none⟩ (.pointer (some ⟨gg, 0, none⟩)) = wz at *
      clear m0 f0
      go_wp2_with fail
      go_meet
      exact ⟨x21, gg, gb2, rfl, hbz, hGz, hgz, by omega, by omega, by omega⟩
  case rest =>
  obtain ⟨x6, sg, sb, rfl, hb6, hGs2, hgc, hx6, hsg, hsb⟩ := hcut
  generalize hwq : wc = w6 at *
  clear hwq hN hcl
  have hG6 := hG5.pure hgc
  replace hb5 := hb5.pure hgc
  have hgw6 := hgw5.t hgc
  clear hG5 hgc
  have hl56 := And.intro hb5.lt hb6.lt
  go_upto_region 7 with fail
  obtain ⟨w7, hw7⟩ : ∃ x, x = (w6).alloc (.cells [.slice none 0 0].toArray 57) := ⟨_, rfl⟩
  have hg7 : (w6).grownBy w7 none := by rw [hw7]; exact gr_alloc (World.grownBy.refl _ _) _
  have hb7 : Box w7 (w6).heap.size 57 [.slice none 0 0] := by rw [hw7]; exact Box.new _ _ _
  have hxs7 := hb7.lt
  rw [← hw7]
  clear hw7
  obtain ⟨x7, hx7⟩ : ∃ x, x = (w6).heap.size := ⟨_, rfl⟩
  rw [← hx7] at hb7 hxs7 ⊢
  have hxl7 : (w6).heap.size ≤ x7 := by omega
  clear hx7
  have hG7 := hG6.pure hg7
  have hS7 := hGs2.pure hg7
  replace hb5 := hb5.pure hg7
  replace hb6 := hb6.pure hg7
  have hgw7 := hgw6.t hg7
  have hl5 := hb5.lt
  have hl6 := hb6.lt
  have hlS := hS7.lt
  have hlS6 := hGs2.lt
  have hsz6 := hgw6.size
  have hlen : G.on.length ≤ 1000000 := by rw [hok.n]; exact ix_bd hok.w hok.h
  have hE := each_any g gb G 99 #[] #[.pointer (some ⟨x6, 0, none⟩), .pointer (some ⟨x5, 0, none⟩), .pointer (some ⟨x7, 0, none⟩)] (fun k wx => PrtI w g gb sg sb x5 x6 x7 G (cellsG G k) wx) w7
    (fun k wx h => by obtain ⟨S', Ao, co, raws, -, b, -⟩ := h; exact b)
    (fun k wx hk hv h => by rw [cellsG_next, hv]; simpa using h)
    (fun k wx wy h hg => h.pure hg)
    (fun k wx hk hv h => by
      have hc := cellsG_len G k
      have hat : G.at (G.cx k) (G.cy k) = true := (hok.at_ix hk).trans hv
      rw [cellsG_next, hv]
      exact partsClo_any w g gb sg sb x5 x6 x7 G (cellsG G k) (G.cx k) (G.cy k) wx h (cellsG_in hok (Nat.le_of_lt hk)) hat (by omega) ⟨by omega, by omega⟩ ⟨by omega, by omega, by omega, by omega, by omega⟩)
    (fun xs wx => run_enter Tryz.func99 (by kernel_rfl) rfl xs wx)
    ⟨Grd.none G.step G.x G.y G.wide G.high, none, 0, [], ⟨hS7, ⟨rfl, rfl, rfl, rfl, rfl⟩, fun u v => by rw [Grd.none_at]; rfl⟩, hG7, hb5, hb6, hb7, Own.nil _ _ _, CMatch.nil, hgw7⟩
  replace hE := hide hE
  obtain ⟨m0, -⟩ := hb5.c 0 rfl
  clear hG7 hS7 hb5 hb6 hb7 hG6 hGs2 hgw5 hgw6 hgw7 hg7
  go_wp2_with fail
  refine hE.out.mono ?_
  rintro e w9 ⟨rfl, S', Ao, co, raws, -, -, -, -, hbo, hO, hM, hgf⟩
  obtain ⟨z0, -⟩ := hbo.c 0 rfl
  clear hE m0
  go_wp2_with fail
  go_ret2
  refine ⟨Ao, co, raws, by rw [hF.out]; rfl, hO, ?_, hgf⟩
  rw [hif.out, hPc.out, ← hGs.out]
  exact hM

end Go.Proofs.YtgcpegjggakemaaGreatDoor

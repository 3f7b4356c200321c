/- Contracts of functions that this seat's laws reach, each: what one call returns and what it leaves in memory; no condition beyond each theorem's own hypotheses. -/
import Derived.Test.YtgcpegjggakemaaGreatDoorZqCelE
import Derived.Test.YtgcpegjggakemaaGreatDoorZqClosData
set_option linter.unusedVariables false
set_option linter.unusedSimpArgs false
namespace Go.Proofs.YtgcpegjggakemaaGreatDoor
open Go Go.RowKit Go.Bl

theorem run_enter {P : Program} {f : FuncId} {fn : Func} {c : Code} (hf : P.funcs[f]? = some fn) (hname : (fn.name == "runtime.NumGoroutine") = false) (hb : fn.body = some c) (args : Array Value) (w : World) :
    (callFunc f args).run P w = .ok (.enter f args) w := by
  have h1 : fn.name ≠ "runtime.NumGoroutine" := by simpa using hname
  simp [callFunc, hf, h1, hb]

/-- the world while the box is looked for -/
def BoxI (w0 : World) (g b gs gl gh : Nat) (G : Grd) (S : Int → Int → Bool) (w : World) : Prop :=
  ∃ (s : Bool) (x0 y0 x1 y1 : Int), Box w gs 4 [.bool s] ∧ Box w gl 30 [.int .i64 x0, .int .i64 y0] ∧ Box w gh 30 [.int .i64 x1, .int .i64 y1] ∧ GridAt w g b G ∧ w0.grownBy w none ∧ BoxSt S s x0 y0 x1 y1

theorem BoxI.pure {w0 w w' : World} {g b gs gl gh : Nat} {G : Grd} {S : Int → Int → Bool} (h : BoxI w0 g b gs gl gh G S w) (hg : w.grownBy w' none) : BoxI w0 g b gs gl gh G S w' :=
  let ⟨s, x0, y0, x1, y1, h1, h2, h3, h4, h5, h6⟩ := h
  ⟨s, x0, y0, x1, y1, h1.pure hg, h2.pure hg, h3.pure hg, h4.pure hg, h5.t hg, h6⟩

theorem BoxI.congr {w0 w : World} {g b gs gl gh : Nat} {G : Grd} {S T : Int → Int → Bool} (h : BoxI w0 g b gs gl gh G S w) (hS : ∀ x y, S x y = T x y) : BoxI w0 g b gs gl gh G T w :=
  let ⟨s, x0, y0, x1, y1, h1, h2, h3, h4, h5, h6⟩ := h
  ⟨s, x0, y0, x1, y1, h1, h2, h3, h4, h5, h6.congr hS⟩

theorem set2_gr {w : World} {g : Nat} (u v : Value) : w.grownBy ((w.setCell ⟨g, 0, none⟩ u).setCell ⟨g, 1, none⟩ v) (some g) := gr_set (gr_set (World.grownBy.refl w (some g)) (.inl rfl) _) (.inl rfl) _

theorem box_set2 {w : World} {g : Nat} {t : TypeId} {a b : Value} (h : Box w g t [a, b]) (u v : Value) : Box ((w.setCell ⟨g, 0, none⟩ u).setCell ⟨g, 1, none⟩ v) g t [u, v] := (h.set_ 0 u (by simp)).set_ 1 v (by simp)

set_option maxHeartbeats 4000000 in
set_option maxRecDepth 100000 in
theorem boxClo_any (w0 : World) (g b gs gl gh : Nat) (G : Grd) (S T : Int → Int → Bool) (px py : Int) (w : World) (hI : BoxI w0 g b gs gl gh G S w)
    (hT : ∀ u v, T u v = (S u v || decide (u = px ∧ v = py))) (hs0 : w0.heap.size ≤ gs) (hl0 : w0.heap.size ≤ gl) (hh0 : w0.heap.size ≤ gh) (hlh : gl ≠ gh) (hgb : g < w0.heap.size ∧ b < w0.heap.size) :
    Calls Tryz.prog 183 #[.int .i64 px, .int .i64 py, .pointer (some ⟨gs, 0, none⟩), .pointer (some ⟨gl, 0, none⟩), .pointer (some ⟨gh, 0, none⟩)] w fun e w' => e = .returned (.tuple #[]) ∧ BoxI w0 g b gs gl gh G T w' := by
  obtain ⟨s, x0, y0, x1, y1, hbs, hbl, hbh, hG, hg0, hst⟩ := hI
  have hsl : gs ≠ gl := fun e => by rw [e] at hbs; exact absurd (hbs.1.uniq hbl.1) (by decide)
  have hsh : gs ≠ gh := fun e => by rw [e] at hbs; exact absurd (hbs.1.uniq hbh.1) (by decide)
  have hlt1 := hbs.lt
  have hlt2 := hbl.lt
  have hlt3 := hbh.lt
  replace hst := hide hst
  replace hT := hide hT
  have hfin : Hid (∀ wz a c d e', Box wz gs 4 [.bool true] → Box wz gl 30 [.int .i64 a, .int .i64 c] → Box wz gh 30 [.int .i64 d, .int .i64 e'] → GridAt wz g b G → w0.grownBy wz none → Box4 T a c d e' → BoxI w0 g b gs gl gh G T wz) :=
    fun wz a c d e' h1 h2 h3 h4 h5 h6 => ⟨true, a, c, d, e', h1, h2, h3, h4, h5, .inr ⟨rfl, h6⟩⟩
  go_enter Tryz.func183, Tryz.ntmps183
  go_upto_region 1 with fail
  obtain ⟨w7, hw7⟩ : ∃ x, x = (w).alloc (.cells [.int .i64 px, .int .i64 py].toArray 30) := ⟨_, rfl⟩
  have hg7 : (w).grownBy w7 none := by rw [hw7]; exact gr_alloc (World.grownBy.refl _ _) _
  have hb7 : Box w7 (w).heap.size 30 [.int .i64 px, .int .i64 py] := by rw [hw7]; exact Box.new _ _ _
  have hxs7 := hb7.lt
  rw [← hw7]
  clear hw7
  obtain ⟨x7, hx7⟩ : ∃ x, x = (w).heap.size := ⟨_, rfl⟩
  rw [← hx7] at hb7 hxs7 ⊢
  have hxl7 : (w).heap.size ≤ x7 := by omega
  clear hx7
  replace hbs := hbs.pure hg7
  replace hbl := hbl.pure hg7
  replace hbh := hbh.pure hg7
  replace hG := hG.pure hg7
  replace hg0 := hg0.t hg7
  cases s
  · have hT1 : ∀ u v, T u v = decide (u = px ∧ v = py) := fun u v => by
      rcases hst.out with ⟨-, h⟩ | ⟨h, -⟩
      · rw [hT.out, h]; rfl
      · cases h
    have hB := hide (Box4.one hT1)
    clear hT1 hst hT
    obtain ⟨c0, -⟩ := hbs.c 0 rfl
    go_upto_region 2 with fail
    clear c0
    obtain ⟨wa, rfl⟩ : ∃ x, x = w7 := ⟨_, rfl⟩
    refine wp_region_tree (fun wx => Box wx x7 30 [.int .i64 px, .int .i64 py]) [1, 1, 0, 0, 0] (.bl 0 (.bl 1 (.ef 2 (.ef 3 (.ef 4 .done))))) (by kernel_rfl) (by kernel_rfl) (hb7.pure (gr_drew (World.grownBy.refl _ _))) ?_
    obtain ⟨w1, hw1⟩ : ∃ x, x = (wa).drew := ⟨_, rfl⟩
    rw [← hw1]
    have hgw1 : (wa).grownBy w1 none := by rw [hw1]; exact gr_drew (World.grownBy.refl _ _)
    clear hw1
    replace hb7 := hb7.pure hgw1
    replace hbs := hbs.pure hgw1
    replace hbl := hbl.pure hgw1
    replace hbh := hbh.pure hgw1
    replace hG := hG.pure hgw1
    replace hg0 := hg0.t hgw1
    refine tree_b rfl rfl rfl rfl _ rfl (by simp) (fun K hK => ?_)
    apply Exists.intro
    refine ⟨fun wq hq K' hK' => ?_, ?_⟩
    · have q0 := (hq.c 0 rfl).1
      have q1 := (hq.c 1 rfl).1
      go_wp2_with fail
      exact hK'
    go_simp
    refine hK _ ?_
    clear hK K
    refine tree_b rfl rfl rfl rfl _ rfl (by simp) (fun K hK => ?_)
    apply Exists.intro
    refine ⟨fun wq hq K' hK' => ?_, ?_⟩
    · have q0 := (hq.c 0 rfl).1
      have q1 := (hq.c 1 rfl).1
      go_wp2_with fail
      exact hK'
    go_simp
    refine hK _ ?_
    clear hK K
    refine tree_e rfl rfl (fun K hK => ?_)
    obtain ⟨f0, f0'⟩ := hbl.c 0 rfl
    obtain ⟨f1, f1'⟩ := hbl.c 1 rfl
    go_wp2_with fail
    try go_simp
    refine hK _ _ (hb7.gr (set2_gr _ _) (by intro e; injection e; omega)) ?_
    clear hK K
    obtain ⟨w2, hw2⟩ : ∃ x, x = (w1.setCell ⟨gl, 0, none⟩ (.int .i64 px)).setCell ⟨gl, 1, none⟩ (.int .i64 py) := ⟨_, rfl⟩
    have hg2 : w1.grownBy w2 (some gl) := by rw [hw2]; exact set2_gr _ _
    have hbl2 : Box w2 gl 30 [.int .i64 px, .int .i64 py] := by rw [hw2]; exact box_set2 hbl _ _
    rw [← hw2]
    clear hw2 f0 f0' f1 f1' hbl
    replace hbs := hbs.gr hg2 (by intro e; injection e; omega)
    replace hbh := hbh.gr hg2 (by intro e; injection e; omega)
    replace hG := hG.gr hg2 (by intro e; injection e; omega) (by intro e; injection e; omega)
    replace hg0 := gr_new hg0 hg2 hl0
    clear hg2
    refine tree_e0 (by kernel_rfl) rfl rfl (fun K hK => ?_)
    obtain ⟨f0, f0'⟩ := hbh.c 0 rfl
    obtain ⟨f1, f1'⟩ := hbh.c 1 rfl
    go_wp2_with fail
    try go_simp
    refine hK _ _ trivial ?_
    clear hK K
    obtain ⟨w3, hw3⟩ : ∃ x, x = (w2.setCell ⟨gh, 0, none⟩ (.int .i64 px)).setCell ⟨gh, 1, none⟩ (.int .i64 py) := ⟨_, rfl⟩
    have hg3 : w2.grownBy w3 (some gh) := by rw [hw3]; exact set2_gr _ _
    have hbh2 : Box w3 gh 30 [.int .i64 px, .int .i64 py] := by rw [hw3]; exact box_set2 hbh _ _
    rw [← hw3]
    clear hw3 f0 f0' f1 f1' hbh
    replace hbs := hbs.gr hg3 (by intro e; injection e; omega)
    replace hbl2 := hbl2.gr hg3 (by intro e; injection e; omega)
    replace hG := hG.gr hg3 (by intro e; injection e; omega) (by intro e; injection e; omega)
    replace hg0 := gr_new hg0 hg3 hh0
    clear hg3
    refine tree_e0 (by kernel_rfl) rfl rfl (fun K hK => ?_)
    obtain ⟨f0, f0'⟩ := hbs.c 0 rfl
    go_wp2_with fail
    try go_simp
    refine hK _ _ trivial ?_
    clear hK K
    obtain ⟨w4, hw4⟩ : ∃ x, x = w3.setCell ⟨gs, 0, none⟩ (.bool true) := ⟨_, rfl⟩
    have hg4 : w3.grownBy w4 (some gs) := by rw [hw4]; exact gr_set (World.grownBy.refl _ _) (.inl rfl) _
    have hbs2 : Box w4 gs 4 [.bool true] := by rw [hw4]; exact hbs.set_ 0 _ (by simp)
    rw [← hw4]
    clear hw4 f0 f0' hbs
    replace hbh2 := hbh2.gr hg4 (by intro e; injection e; omega)
    replace hbl2 := hbl2.gr hg4 (by intro e; injection e; omega)
    replace hG := hG.gr hg4 (by intro e; injection e; omega) (by intro e; injection e; omega)
    replace hg0 := gr_new hg0 hg4 hs0
    clear hg4
    refine tree_done ?_
    clear hb7 hgw1 hlt1 hlt2 hlt3
    obtain ⟨f0, f0'⟩ := (hbl2).c 0 rfl
    obtain ⟨f1, f1'⟩ := (hbl2).c 1 rfl
    go_upto_region 4 with fail
    obtain ⟨v3, hv3⟩ : ∃ x, x = ((w4).setCell ⟨gl, 0, none⟩ (.int .i64 (min px px))).setCell ⟨gl, 1, none⟩ (.int .i64 (min py py)) := ⟨_, rfl⟩
    have hgv3 : (w4).grownBy v3 (some gl) := by rw [hv3]; exact set2_gr _ _
    replace hbl2 : Box v3 gl 30 [.int .i64 (min px px), .int .i64 (min py py)] := by rw [hv3]; exact box_set2 hbl2 _ _
    try simp only [Int.min_self] at hv3
    rw [← hv3]
    clear hv3 f0 f0' f1 f1'
    replace hbs2 := (hbs2).gr hgv3 (by intro e; injection e; omega)
    replace hbh2 := (hbh2).gr hgv3 (by intro e; injection e; omega)
    replace hG := hG.gr hgv3 (by intro e; injection e; omega) (by intro e; injection e; omega)
    replace hg0 := gr_new hg0 hgv3 hl0
    clear hgv3
    obtain ⟨f0, f0'⟩ := (hbh2).c 0 rfl
    obtain ⟨f1, f1'⟩ := (hbh2).c 1 rfl
    go_wp2_with fail
    have hgv4 : v3.grownBy ((v3.setCell ⟨gh, 0, none⟩ (.int .i64 (max px px))).setCell ⟨gh, 1, none⟩ (.int .i64 (max py py))) (some gh) := set2_gr _ _
    replace hbh2 := box_set2 hbh2 (.int .i64 (max px px)) (.int .i64 (max py py))
    replace hbs2 := (hbs2).gr hgv4 (by intro e; injection e; omega)
    replace hbl2 := (hbl2).gr hgv4 (by intro e; injection e; omega)
    replace hG := hG.gr hgv4 (by intro e; injection e; omega) (by intro e; injection e; omega)
    replace hg0 := gr_new hg0 hgv4 hh0
    try simp only [Int.max_self] at hbs2 hbl2 hbh2 hG hg0
    try simp only [Int.min_self] at hbl2
    go_end0
    exact ⟨rfl, hfin.out _ _ _ _ _ hbs2 hbl2 hbh2 hG hg0 (by simpa using hB.out)⟩
  · have hB := hst.out
    replace hB : Box4 S x0 y0 x1 y1 := by rcases hB with ⟨h, -⟩ | ⟨-, h⟩; cases h; exact h
    replace hB := hide (hB.more hT.out)
    clear hst hT hb7
    obtain ⟨c0, -⟩ := hbs.c 0 rfl
    obtain ⟨f0, f0'⟩ := (hbl).c 0 rfl
    obtain ⟨f1, f1'⟩ := (hbl).c 1 rfl
    go_upto_region 4 with fail
    obtain ⟨v3, hv3⟩ : ∃ x, x = ((w7).setCell ⟨gl, 0, none⟩ (.int .i64 (min x0 px))).setCell ⟨gl, 1, none⟩ (.int .i64 (min y0 py)) := ⟨_, rfl⟩
    have hgv3 : (w7).grownBy v3 (some gl) := by rw [hv3]; exact set2_gr _ _
    replace hbl : Box v3 gl 30 [.int .i64 (min x0 px), .int .i64 (min y0 py)] := by rw [hv3]; exact box_set2 hbl _ _
    try simp only [Int.min_self] at hv3
    rw [← hv3]
    clear hv3 f0 f0' f1 f1'
    replace hbs := (hbs).gr hgv3 (by intro e; injection e; omega)
    replace hbh := (hbh).gr hgv3 (by intro e; injection e; omega)
    replace hG := hG.gr hgv3 (by intro e; injection e; omega) (by intro e; injection e; omega)
    replace hg0 := gr_new hg0 hgv3 hl0
    clear hgv3
    obtain ⟨f0, f0'⟩ := (hbh).c 0 rfl
    obtain ⟨f1, f1'⟩ := (hbh).c 1 rfl
    go_wp2_with fail
    have hgv4 : v3.grownBy ((v3.setCell ⟨gh, 0, none⟩ (.int .i64 (max x1 px))).setCell ⟨gh, 1, none⟩ (.int .i64 (max y1 py))) (some gh) := set2_gr _ _
    replace hbh := box_set2 hbh (.int .i64 (max x1 px)) (.int .i64 (max y1 py))
    replace hbs := (hbs).gr hgv4 (by intro e; injection e; omega)
    replace hbl := (hbl).gr hgv4 (by intro e; injection e; omega)
    replace hG := hG.gr hgv4 (by intro e; injection e; omega) (by intro e; injection e; omega)
    replace hg0 := gr_new hg0 hgv4 hh0
    try simp only [Int.max_self] at hbs hbl hbh hG hg0
    try simp only [Int.min_self] at hbl
    go_end0
    exact ⟨rfl, hfin.out _ _ _ _ _ hbs hbl hbh hG hg0 hB.out⟩

end Go.Proofs.YtgcpegjggakemaaGreatDoor

namespace Go.Proofs.YtgcpegjggakemaaGreatDoor
open Go Go.RowKit Go.Bl

def Box3s (w : World) (gs gl gh : Nat) (s : Bool) (x0 y0 x1 y1 : Int) : Prop :=
  Box w gs 4 [.bool s] ∧ Box w gl 30 [.int .i64 x0, .int .i64 y0] ∧ Box w gh 30 [.int .i64 x1, .int .i64 y1]

theorem Box3s.cells {w : World} {gs gl gh : Nat} {s : Bool} {x0 y0 x1 y1 : Int} (h : Box3s w gs gl gh s x0 y0 x1 y1) :
    w.cell? ⟨gl, 0, none⟩ = some (.int .i64 x0) ∧ w.cell? ⟨gl, 1, none⟩ = some (.int .i64 y0) ∧ w.cell? ⟨gh, 0, none⟩ = some (.int .i64 x1) ∧ w.cell? ⟨gh, 1, none⟩ = some (.int .i64 y1) ∧ w.cell? ⟨gs, 0, none⟩ = some (.bool s) ∧
    w.frozen? ⟨gl, 0, none⟩ = false ∧ w.frozen? ⟨gl, 1, none⟩ = false ∧ w.frozen? ⟨gh, 0, none⟩ = false ∧ w.frozen? ⟨gh, 1, none⟩ = false ∧ w.frozen? ⟨gs, 0, none⟩ = false :=
  ⟨(h.2.1.c 0 rfl).1, (h.2.1.c 1 rfl).1, (h.2.2.c 0 rfl).1, (h.2.2.c 1 rfl).1, (h.1.c 0 rfl).1, (h.2.1.c 0 rfl).2, (h.2.1.c 1 rfl).2, (h.2.2.c 0 rfl).2, (h.2.2.c 1 rfl).2, (h.1.c 0 rfl).2⟩

theorem Box3s.setl {w : World} {gs gl gh : Nat} {s : Bool} {x0 y0 x1 y1 : Int} (h : Box3s w gs gl gh s x0 y0 x1 y1) (h1 : gs ≠ gl) (h2 : gl ≠ gh) : Box3s ((w.setCell ⟨gl, 0, none⟩ (.int .i64 x0)).setCell ⟨gl, 1, none⟩ (.int .i64 y0)) gs gl gh s x0 y0 x1 y1 :=
  ⟨h.1.gr (set2_gr _ _) (by intro e; injection e with e; exact h1 e.symm), box_set2 h.2.1 _ _, h.2.2.gr (set2_gr _ _) (by intro e; injection e with e; exact h2 e)⟩

theorem Box3s.seth {w : World} {gs gl gh : Nat} {s : Bool} {x0 y0 x1 y1 : Int} (h : Box3s w gs gl gh s x0 y0 x1 y1) (h1 : gs ≠ gh) (h2 : gl ≠ gh) : Box3s ((w.setCell ⟨gh, 0, none⟩ (.int .i64 x1)).setCell ⟨gh, 1, none⟩ (.int .i64 y1)) gs gl gh s x0 y0 x1 y1 :=
  ⟨h.1.gr (set2_gr _ _) (by intro e; injection e with e; exact h1 e.symm), h.2.1.gr (set2_gr _ _) (by intro e; injection e with e; exact h2 e.symm), box_set2 h.2.2 _ _⟩

theorem Box3s.sets {w : World} {gs gl gh : Nat} {s : Bool} {x0 y0 x1 y1 : Int} (h : Box3s w gs gl gh s x0 y0 x1 y1) (h1 : gs ≠ gl) (h2 : gs ≠ gh) : Box3s (w.setCell ⟨gs, 0, none⟩ (.bool s)) gs gl gh s x0 y0 x1 y1 :=
  ⟨h.1.set_ 0 _ (by simp), h.2.1.gr (gr_set (World.grownBy.refl w (some gs)) (p := ⟨gs, 0, none⟩) (.inl rfl) _) (by intro e; injection e with e; exact h1 e), h.2.2.gr (gr_set (World.grownBy.refl w (some gs)) (p := ⟨gs, 0, none⟩) (.inl rfl) _) (by intro e; injection e with e; exact h2 e)⟩

set_option maxHeartbeats 4000000 in
set_option maxRecDepth 100000 in
theorem box_any (g b : Nat) (G : Grd) (w : World) (hG : GridAt w g b G) :
    Calls Tryz.prog 140 #[.pointer (some ⟨g, 0, none⟩)] w fun e w' => ∃ (s : Bool) (x0 y0 x1 y1 : Int), e = .returned (.tuple #[.agg #[.int .i64 x0, .int .i64 y0], .agg #[.int .i64 x1, .int .i64 y1], .bool s]) ∧ BoxSt G.at s x0 y0 x1 y1 ∧ w.grownBy w' none := by
  go_enter Tryz.func140, Tryz.ntmps140
  go_upto_region 1 with fail
  obtain ⟨w3, hw3⟩ : ∃ x, x = ((w.alloc (.cells #[.int .i64 0, .int .i64 0] 30)).alloc (.cells #[.int .i64 0, .int .i64 0] 30)).alloc (.cells #[.bool false] 4) := ⟨_, rfl⟩
  have hbl : Box w3 w.heap.size 30 [.int .i64 0, .int .i64 0] := by
    rw [hw3]; exact ((Box.new w [.int .i64 0, .int .i64 0] 30).pure (gr_alloc (World.grownBy.refl _ _) _)).pure (gr_alloc (World.grownBy.refl _ _) _)
  have hbh : Box w3 (w.heap.size + 1) 30 [.int .i64 0, .int .i64 0] := by
    have h := (Box.new (w.alloc (.cells #[.int .i64 0, .int .i64 0] 30)) [.int .i64 0, .int .i64 0] 30).pure (gr_alloc (World.grownBy.refl _ none) (.cells #[.bool false] 4))
    rw [show (w.alloc (.cells #[.int .i64 0, .int .i64 0] 30)).heap.size = w.heap.size + 1 by simp] at h
    rw [hw3]; exact h
  have hbs : Box w3 (w.heap.size + 1 + 1) 4 [.bool false] := by
    have h := Box.new ((w.alloc (.cells #[.int .i64 0, .int .i64 0] 30)).alloc (.cells #[.int .i64 0, .int .i64 0] 30)) [.bool false] 4
    rw [show ((w.alloc (.cells #[.int .i64 0, .int .i64 0] 30)).alloc (.cells #[.int .i64 0, .int .i64 0] 30)).heap.size = w.heap.size + 1 + 1 by simp] at h
    rw [hw3]; exact h
  have hg3 : w.grownBy w3 none := by rw [hw3]; exact (by repeat (first | exact World.grownBy.refl _ _ | assumption | refine gr_alloc ?_ _ | (apply gr_tail; assumption) | refine gr_drewN ?_ _ | refine gr_drew ?_))
  rw [← hw3]
  clear hw3
  have hll : w.heap.size ≤ w.heap.size := Nat.le_refl _
  have hlh : w.heap.size ≤ w.heap.size + 1 := by omega
  have hls : w.heap.size ≤ w.heap.size + 1 + 1 := by omega
  have hne : w.heap.size ≠ w.heap.size + 1 := by omega
  obtain ⟨gh, hgh⟩ : ∃ x, x = w.heap.size + 1 := ⟨_, rfl⟩
  obtain ⟨gs, hgs⟩ : ∃ x, x = w.heap.size + 1 + 1 := ⟨_, rfl⟩
  rw [← hgs] at hbs hls ⊢
  rw [← hgh] at hbh hlh hne ⊢
  clear hgh hgs
  obtain ⟨gl, hgl⟩ : ∃ x, x = w.heap.size := ⟨_, rfl⟩
  rw [← hgl] at hbl hne ⊢
  have hl0 : w.heap.size ≤ gl := by omega
  clear hgl hll
  have hG3 := hG.pure hg3
  have hE := each_any g b G 183 #[] #[.pointer (some ⟨gs, 0, none⟩), .pointer (some ⟨gl, 0, none⟩), .pointer (some ⟨gh, 0, none⟩)] (fun k wx => BoxI w g b gs gl gh G (G.upto k) wx) w3
    (fun k wx h => by obtain ⟨s, x0, y0, x1, y1, h1, h2, h3, h4, h5, h6⟩ := h; exact h4)
    (fun k wx hk hv h => h.congr (fun x y => (Grd.upto_skip hG.ok hk hv x y).symm))
    (fun k wx wy h hg => h.pure hg)
    (fun k wx hk hv h => boxClo_any w g b gs gl gh G (G.upto k) (G.upto (k + 1)) (G.cx k) (G.cy k) wx h (Grd.upto_next hG.ok hk hv) hls hl0 hlh hne hG.lt)
    (fun xs wx => run_enter Tryz.func183 (by kernel_rfl) rfl xs wx)
    ⟨false, 0, 0, 0, 0, hbs, hbl, hbh, hG3, hg3, .inl ⟨rfl, G.upto_zero⟩⟩
  replace hE := hide hE
  have hall := hide (Grd.upto_all hG.ok)
  clear hbl hbh hbs hG3
  go_wp2_with fail
  refine hE.out.mono ?_
  rintro e w4 ⟨rfl, s, x0, y0, x1, y1, hbs, hbl, hbh, hG4, hg4, hst⟩
  replace hst := hide (hst.congr hall.out)
  clear hall hE
  have hsl : gs ≠ gl := fun e => by rw [e] at hbs; exact absurd (hbs.1.uniq hbl.1) (by decide)
  have hsh : gs ≠ gh := fun e => by rw [e] at hbs; exact absurd (hbs.1.uniq hbh.1) (by decide)
  go_upto_region 2 with fail
  refine wp_region_tree (fun wx => Box3s wx gs gl gh s x0 y0 x1 y1) [1, 1, 1, 0, 0, 0] (.bl 0 (.bl 1 (.bl 2 (.ef 3 (.ef 4 (.ef 5 .done)))))) (by kernel_rfl) (by kernel_rfl) (⟨hbs.pure (gr_drew (World.grownBy.refl _ _)), hbl.pure (gr_drew (World.grownBy.refl _ _)), hbh.pure (gr_drew (World.grownBy.refl _ _))⟩) ?_
  obtain ⟨w5, hw5⟩ : ∃ x, x = (w4).drew := ⟨_, rfl⟩
  rw [← hw5]
  have hgw5 : (w4).grownBy w5 none := by rw [hw5]; exact gr_drew (World.grownBy.refl _ _)
  clear hw5
  have hB : Box3s w5 gs gl gh s x0 y0 x1 y1 := ⟨hbs.pure hgw5, hbl.pure hgw5, hbh.pure hgw5⟩
  replace hg4 := hg4.t hgw5
  clear hbs hbl hbh hgw5
  refine tree_b rfl rfl rfl rfl _ rfl (by simp) (fun K hK => ?_)
  apply Exists.intro
  refine ⟨fun wq hq K' hK' => ?_, ?_⟩
  · obtain ⟨l0, l1, h0, h1, s0, -⟩ := hq.cells
    go_wp2_with fail
    exact hK'
  go_simp
  refine hK _ ?_
  clear hK K
  refine tree_b rfl rfl rfl rfl _ rfl (by simp) (fun K hK => ?_)
  apply Exists.intro
  refine ⟨fun wq hq K' hK' => ?_, ?_⟩
  · obtain ⟨l0, l1, h0, h1, s0, -⟩ := hq.cells
    go_wp2_with fail
    exact hK'
  go_simp
  refine hK _ ?_
  clear hK K
  refine tree_b rfl rfl rfl rfl _ rfl (by simp) (fun K hK => ?_)
  apply Exists.intro
  refine ⟨fun wq hq K' hK' => ?_, ?_⟩
  · obtain ⟨l0, l1, h0, h1, s0, -⟩ := hq.cells
    go_wp2_with fail
    exact hK'
  go_simp
  refine hK _ ?_
  clear hK K
  refine tree_e rfl rfl (fun K hK => ?_)
  obtain ⟨f0, f0'⟩ := hB.2.1.c 0 rfl
  obtain ⟨f1, f1'⟩ := hB.2.1.c 1 rfl
  go_wp2_with fail
  try go_simp
  refine hK _ _ (hB.setl hsl hne) ?_
  clear hK K
  replace hg4 := gr_new hg4 (set2_gr (w := w5) (g := gl) (.int .i64 x0) (.int .i64 y0)) hl0
  replace hB := hB.setl hsl hne
  generalize (w5.setCell ⟨gl, 0, none⟩ (.int .i64 x0)).setCell ⟨gl, 1, none⟩ (.int .i64 y0) = w6 at *
  clear f0 f0' f1 f1'
  refine tree_e rfl rfl (fun K hK => ?_)
  obtain ⟨f0, f0'⟩ := hB.2.2.c 0 rfl
  obtain ⟨f1, f1'⟩ := hB.2.2.c 1 rfl
  go_wp2_with fail
  try go_simp
  refine hK _ _ (hB.seth hsh hne) ?_
  clear hK K
  replace hg4 := gr_new hg4 (set2_gr (w := w6) (g := gh) (.int .i64 x1) (.int .i64 y1)) hlh
  replace hB := hB.seth hsh hne
  generalize (w6.setCell ⟨gh, 0, none⟩ (.int .i64 x1)).setCell ⟨gh, 1, none⟩ (.int .i64 y1) = w7 at *
  clear f0 f0' f1 f1'
  refine tree_e0 (by kernel_rfl) rfl rfl (fun K hK => ?_)
  obtain ⟨f0, f0'⟩ := hB.1.c 0 rfl
  go_wp2_with fail
  try go_simp
  refine hK _ _ trivial ?_
  clear hK K
  refine tree_done ?_
  have hg5 := gr_new hg4 (gr_set (World.grownBy.refl w7 (some gs)) (p := ⟨gs, 0, none⟩) (.inl rfl) (.bool s)) hls
  have hB5 : Box3s (w7.setCell ⟨gs, 0, none⟩ (.bool s)) gs gl gh s x0 y0 x1 y1 := hB.sets hsl hsh
  obtain ⟨l0, l1, h0, h1, s0, l0', l1', h0', h1', s0'⟩ := hB5.cells
  clear hB f0 f0'
  generalize w7.setCell ⟨gs, 0, none⟩ (.bool s) = w8 at *
  go_wp2_with fail
  exact bodyPost_ret (v := .tuple #[.agg #[.int .i64 x0, .int .i64 y0], .agg #[.int .i64 x1, .int .i64 y1], .bool s]) (by simp [results, Tryz.results140, go_sem, l0, l1, h0, h1, s0, l0', l1', h0', h1', s0']) rfl ⟨s, x0, y0, x1, y1, rfl, hst.out, hg5⟩

end Go.Proofs.YtgcpegjggakemaaGreatDoor

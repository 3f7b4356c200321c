/- Contracts of functions that this seat's laws reach, each: what one call returns and what it leaves in memory; no condition beyond each theorem's own hypotheses. -/
import Derived.Test.YtgcpegjggakemaaGreatDoorZqPartsB
import Derived.Test.YtgcpegjggakemaaGreatDoorZqCelY
set_option linter.unusedVariables false
set_option linter.unusedSimpArgs false
namespace Go.Proofs.YtgcpegjggakemaaGreatDoor
open Go Go.RowKit Go.Bl

theorem cellsAt {w : World} {lo lo2 : Nat} {e : TypeId} {A : Option Addr} {c : Nat} {raws : List RawC} {cs : List Cel} (hO : Own w lo e A c raws) (hM : CMatch w lo2 raws cs) {k : Nat} (hk : k < cs.length) :
    ∃ g B cc, A = some ⟨g, 0, none⟩ ∧ w.cell? ⟨g, k * 4, none⟩ = some (.int .i64 cs[k].step) ∧ w.cell? ⟨g, k * 4 + 1, none⟩ = some (.int .i64 cs[k].x) ∧ w.cell? ⟨g, k * 4 + 2, none⟩ = some (.int .i64 cs[k].y) ∧ w.cell? ⟨g, k * 4 + 3, none⟩ = some (.slice B cs[k].rows.length cc) ∧ Sl w 0 B cs[k].rows := by
  have hk1 : k < raws.length := by rw [hM.1]; exact hk
  obtain ⟨B, cc, hr, ho⟩ := hM.2 k hk1 hk
  obtain ⟨g, rfl, -, -⟩ := hO.shape (by omega)
  obtain ⟨cx, hcr, hcc⟩ := hO.cell_at (by decide) hk1
  have hcr' : cx = [.int .i64 raws[k].step, .int .i64 raws[k].x, .int .i64 raws[k].y, .slice raws[k].A raws[k].n raws[k].c] := hcr
  subst hcr'
  have h0 : w.cell? ⟨g, k * 4, none⟩ = some (.int .i64 raws[k].step) := hcc 0 _ rfl
  have h1 : w.cell? ⟨g, k * 4 + 1, none⟩ = some (.int .i64 raws[k].x) := hcc 1 _ rfl
  have h2 : w.cell? ⟨g, k * 4 + 2, none⟩ = some (.int .i64 raws[k].y) := hcc 2 _ rfl
  have h3 : w.cell? ⟨g, k * 4 + 3, none⟩ = some (.slice raws[k].A raws[k].n raws[k].c) := hcc 3 _ rfl
  rw [hr] at h0 h1 h2 h3
  exact ⟨g, B, cc, rfl, h0, h1, h2, h3, ho.sl.mono (Nat.zero_le _)⟩

set_option maxHeartbeats 4000000 in
set_option maxRecDepth 100000 in
theorem equalCells_any (A : Option Addr) (c : Nat) (r1 : List RawC) (B : Option Addr) (d : Nat) (r2 : List RawC) (cs : List Cel) (lo1 lo2 lo3 lo4 n m : Nat) (w : World) (hO1 : Own w lo1 34 A c r1) (hM1 : CMatch w lo2 r1 cs) (hO2 : Own w lo3 34 B d r2) (hM2 : CMatch w lo4 r2 cs) (hn : r1.length = n) (hm : r2.length = m) :
    Calls Tryz.prog 34 #[.slice A n c, .slice B m d, .func (.func 15) #[] #[]] w fun e w' => e = .returned (.bool true) ∧ w.grownBy w' none := by
  have hmax := hO1.sl.1
  unfold maxLen at hmax
  obtain rfl : n = cs.length := by rw [← hn, hM1.1]
  obtain rfl : m = cs.length := by rw [← hm, hM2.1]
  rw [hn] at hmax
  clear hn hm
  have hf1 := hide fun W (h : w.grownBy W none) k (hk : k < cs.length) => cellsAt (hO1.pure h) (hM1.pure h) hk
  have hf2 := hide fun W (h : w.grownBy W none) k (hk : k < cs.length) => cellsAt (hO2.pure h) (hM2.pure h) hk
  have hself := World.grownBy.refl w none
  have hb : ((cs.length : Int) != cs.length) = false := by simp
  clear hO1 hM1 hO2 hM2
  go_enter Tryz.func34, Tryz.ntmps34
  go_wp2_with fail
  go_loopw [17] (fun i wr => ∃ k : Nat, k ≤ cs.length ∧ i = .int .i64 k ∧ w.grownBy wr none) (fun i _ => cs.length - (intOf i).toNat)
  case atStart => exact ⟨0, Nat.zero_le _, rfl, hself⟩
  case round =>
    clear hself hb
    obtain ⟨k, hk, rfl, hgr⟩ := hrel
    by_cases hlt : k < cs.length
    · obtain ⟨g1, B1, c1, rfl, a0, a1, a2, a3, hs1⟩ := hf1.out wr hgr k hlt
      obtain ⟨g2, B2, c2, rfl, b0, b1, b2, b3, hs2⟩ := hf2.out wr hgr k hlt
      generalize cs[k] = C at *
      go_upto_region 6 with fail
      obtain ⟨w8, hw8⟩ : ∃ x, x = (wr).alloc (.cells [.int .i64 (C).step, .int .i64 (C).x, .int .i64 (C).y, .slice B1 C.rows.length c1].toArray 34) := ⟨_, rfl⟩
      have hg8 : (wr).grownBy w8 none := by rw [hw8]; exact gr_alloc (World.grownBy.refl _ _) _
      have hb8 : Box w8 (wr).heap.size 34 [.int .i64 (C).step, .int .i64 (C).x, .int .i64 (C).y, .slice B1 C.rows.length c1] := by rw [hw8]; exact Box.new _ _ _
      have hxs8 := hb8.lt
      rw [← hw8]
      clear hw8
      obtain ⟨x8, hx8⟩ : ∃ x, x = (wr).heap.size := ⟨_, rfl⟩
      rw [← hx8] at hb8 hxs8 ⊢
      have hxl8 : (wr).heap.size ≤ x8 := by omega
      clear hx8
      replace b0 := hg8.k b0
      replace b1 := hg8.k b1
      replace b2 := hg8.k b2
      replace b3 := hg8.k b3
      clear a0 a1 a2 a3
      go_upto_region 7 with fail
      obtain ⟨w9, hw9⟩ : ∃ x, x = (w8).alloc (.cells [.int .i64 (C).step, .int .i64 (C).x, .int .i64 (C).y, .slice B2 C.rows.length c2].toArray 34) := ⟨_, rfl⟩
      have hg9 : (w8).grownBy w9 none := by rw [hw9]; exact gr_alloc (World.grownBy.refl _ _) _
      have hb9 : Box w9 (w8).heap.size 34 [.int .i64 (C).step, .int .i64 (C).x, .int .i64 (C).y, .slice B2 C.rows.length c2] := by rw [hw9]; exact Box.new _ _ _
      have hxs9 := hb9.lt
      rw [← hw9]
      clear hw9
      obtain ⟨x9, hx9⟩ : ∃ x, x = (w8).heap.size := ⟨_, rfl⟩
      rw [← hx9] at hb9 hxs9 ⊢
      have hxl9 : (w8).heap.size ≤ x9 := by omega
      clear hx9
      have hg89 := hg8.t hg9
      have hSC := hide (sameCells_any C B1 C.rows.length c1 B2 c2 w9 (hs1.pure hg89) (hs2.pure hg89) rfl)
      obtain ⟨⟨a0, -⟩, ⟨a1, -⟩, ⟨a2, -⟩, ⟨a3, -⟩⟩ := box4_c (hb8.pure hg9)
      obtain ⟨⟨d0, -⟩, ⟨d1, -⟩, ⟨d2, -⟩, ⟨d3, -⟩⟩ := box4_c hb9
      clear b0 b1 b2 b3 hs1 hs2 hb8 hb9
      go_wp2_with fail
      refine hSC.out.mono ?_
      rintro e w10 ⟨rfl, hg10⟩
      have hgz := (hgr.t hg89).t hg10
      clear a0 a1 a2 a3 d0 d1 d2 d3 hSC hg89 hg10
      go_wp2_with fail
      (go_roundw; (case rel => exact ⟨k + 1, by omega, by go_num, hgz⟩); (case measure => simp [intOf]; omega))
    · clear hf1 hf2
      go_wp2_with fail
      go_ret
      exact ⟨rfl, hgr⟩

end Go.Proofs.YtgcpegjggakemaaGreatDoor

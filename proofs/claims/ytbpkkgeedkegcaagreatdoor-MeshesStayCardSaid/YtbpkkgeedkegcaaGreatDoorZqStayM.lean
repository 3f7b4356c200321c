/- Contracts of functions that this seat's laws reach, each: what one call returns and what it leaves in memory; no condition beyond each theorem's own hypotheses. -/
import Derived.Test.YtbpkkgeedkegcaaGreatDoorZqMeshTB
import Derived.Test.YtbpkkgeedkegcaaGreatDoorZqShellB
set_option linter.unusedVariables false
set_option linter.unusedSimpArgs false
namespace Go.Proofs.YtbpkkgeedkegcaaGreatDoor
open Go Go.RowKit Go.Bl

/-- integers may change, all else stays -/
def Spd (w w' : World) : Prop := w.heap.size ≤ w'.heap.size ∧ ∀ p v, w.cell? p = some v → (w'.cell? p = some v ∨ ∃ a b, v = .int .i64 a ∧ w'.cell? p = some (.int .i64 b)) ∧ (w.frozen? p = false → w'.frozen? p = false)

theorem Spd.refl (w : World) : Spd w w := ⟨Nat.le_refl _, fun _ _ h => ⟨.inl h, fun h => h⟩⟩

theorem Spd.trans {w w1 w2 : World} (h : Spd w w1) (k : Spd w1 w2) : Spd w w2 := by
  refine ⟨Nat.le_trans h.1 k.1, fun p v hp => ?_⟩
  obtain ⟨h1, h2⟩ := h.2 p v hp
  rcases h1 with h1 | ⟨a, b, rfl, h1⟩
  · obtain ⟨k1, k2⟩ := k.2 p v h1
    exact ⟨k1, fun x => k2 (h2 x)⟩
  · obtain ⟨k1, k2⟩ := k.2 p _ h1
    refine ⟨?_, fun x => k2 (h2 x)⟩
    rcases k1 with k1 | ⟨a', b', e, k1⟩
    · exact .inr ⟨a, b, rfl, k1⟩
    · exact .inr ⟨a, b', rfl, k1⟩

theorem Spd.gr {w w1 w2 : World} (h : Spd w w1) (hg : w1.grownBy w2 none) : Spd w w2 :=
  h.trans ⟨hg.size, fun p v hp => ⟨.inl (hg.k hp), fun hf => gr_froz hg hp (by simp) hf⟩⟩

theorem Spd.set {w w1 : World} (h : Spd w w1) {p : Addr} {a : Int} (hp : w1.cell? p = some (.int .i64 a)) (b : Int) : Spd w (w1.setCell p (.int .i64 b)) := by
  refine h.trans ⟨by rw [heap_set]; exact Nat.le_refl _, fun q v hq => ⟨?_, fun hf => by rw [World.frozen?_setCell]; exact hf⟩⟩
  by_cases e : p = q
  · subst e
    rw [hp] at hq
    injection hq with hq
    exact .inr ⟨a, b, hq.symm, World.cell?_setCell_same _ _ _ hp⟩
  · exact .inl ((World.cell?_setCell_other _ _ _ _ e).trans hq)
/-- what is no integer stays -/
theorem Spd.val {w w' : World} (h : Spd w w') {p : Addr} {v : Value} (hp : w.cell? p = some v) (hv : ∀ a, v ≠ .int .i64 a) : w'.cell? p = some v := by
  rcases (h.2 p v hp).1 with h1 | ⟨a, b, e, -⟩
  · exact h1
  · exact absurd e (hv a)

theorem Spd.sl {w w' : World} (h : Spd w w') {p : Addr} {A : Option Addr} {n c : Nat} (hp : w.cell? p = some (.slice A n c)) : w'.cell? p = some (.slice A n c) := h.val hp (fun a e => by cases e)
/-- integers st cells apart that may be written -/
def RowI (w : World) (lo : Nat) (A : Option Addr) (n st : Nat) : Prop := ∀ i, i < n → ∃ g o x, A = some ⟨g, o, none⟩ ∧ lo ≤ g ∧ w.cell? ⟨g, o + i * st, none⟩ = some (.int .i64 x) ∧ w.frozen? ⟨g, o + i * st, none⟩ = false

theorem RowI.spd {w w' : World} {lo : Nat} {A : Option Addr} {n st : Nat} (h : RowI w lo A n st) (hs : Spd w w') : RowI w' lo A n st := fun i hi => by
  obtain ⟨g, o, x, h1, h2, h3, h4⟩ := h i hi
  obtain ⟨k1, k2⟩ := hs.2 _ _ h3
  rcases k1 with k1 | ⟨a, b, -, k1⟩
  · exact ⟨g, o, x, h1, h2, k1, k2 h4⟩
  · exact ⟨g, o, b, h1, h2, k1, k2 h4⟩

theorem RowI.gr {w w' : World} {lo : Nat} {A : Option Addr} {n st : Nat} (h : RowI w lo A n st) (hg : w.grownBy w' none) : RowI w' lo A n st := h.spd ((Spd.refl w).gr hg)

theorem RowI.v3 {w : World} {lo : Nat} {A : Option Addr} {l : List V3} (h : Sl w lo A l) (ho : OpA w lo A) : RowI w lo A l.length 3 := fun i hi => by
  obtain ⟨g, o, cx, rfl, hb0, hb1, rfl, hc⟩ := h.at_ (by decide) hi
  exact ⟨g, o, l[i].x, rfl, hb0, hc 0 _ rfl, (ho g rfl).2.2 _⟩

theorem RowI.fc {w : World} {lo : Nat} {A : Option Addr} {l : List Fc} (h : Sl w lo A l) (ho : OpA w lo A) : RowI w lo A l.length 3 := fun i hi => by
  obtain ⟨g, o, cx, rfl, hb0, hb1, rfl, hc⟩ := h.at_ (by decide) hi
  exact ⟨g, o, l[i].a, rfl, hb0, hc 0 _ rfl, (ho g rfl).2.2 _⟩

theorem RowI.ints {w : World} {lo : Nat} {A : Option Addr} {l : List Int} (h : Sl w lo A l) (ho : ThawI w A) : RowI w lo A l.length 1 := fun i hi => by
  obtain ⟨g, o, cx, rfl, hb0, hb1, hcr, hc⟩ := h.at_ (by decide) hi
  have hcr : cx = [.int .i64 l[i]] := hcr
  subst hcr
  exact ⟨g, o, l[i], rfl, hb0, hc 0 _ rfl, ho g rfl _⟩
/-- rows of such integers -/
def RowsI (w : World) (lo : Nat) (A : Option Addr) (n : Nat) : Prop := ∀ k, k < n → ∃ g o B m d, A = some ⟨g, o, none⟩ ∧ w.cell? ⟨g, o + k, none⟩ = some (.slice B m d) ∧ RowI w lo B m 1 ∧ m ≤ 100000

theorem RowsI.spd {w w' : World} {lo : Nat} {A : Option Addr} {n : Nat} (h : RowsI w lo A n) (hs : Spd w w') : RowsI w' lo A n := fun k hk => by
  obtain ⟨g, o, B, m, d, h1, h2, h3, h4⟩ := h k hk
  exact ⟨g, o, B, m, d, h1, hs.sl h2, h3.spd hs, h4⟩

theorem RowsI.of {w : World} {lo : Nat} {e : TypeId} {A : Option Addr} {c : Nat} {l : List (List Int)} (h : OwnI w lo e A c l) (hb : ∀ x ∈ l, x.length ≤ 100000) : RowsI w lo A l.length := fun k hk => by
  obtain ⟨raws, ho, ha⟩ := h
  have hl := ha.len
  have hkr : k < raws.length := by omega
  obtain ⟨g, o, cx, e1, hb0, hb1, hcr, hc⟩ := ho.sl.at_ (by decide) hkr
  have hcr : cx = [.slice raws[k].A raws[k].n raws[k].c] := hcr
  subst hcr
  have v0 := hc 0 _ rfl
  rw [show Enc.sz RawS = 1 from rfl, Nat.mul_one, Nat.add_zero] at v0
  have hx := ha.get k hkr hk
  have hn : raws[k].n = l[k].length := hx.1.1.1
  refine ⟨g, o, raws[k].A, raws[k].n, raws[k].c, e1, v0, ?_, by rw [hn]; exact hb _ (List.getElem_mem _)⟩
  rw [hn]
  exact RowI.ints hx.1.1.2.2.1 hx.2

set_option maxHeartbeats 2000000 in
theorem spoilMesh_any (A : Option Addr) (nv c : Nat) (B : Option Addr) (nf d lo : Nat) (wb w : World) (h1 : RowI w lo A nv 3) (h2 : RowI w lo B nf 3) (hnv : nv ≤ 100000) (hnf : nf ≤ 100000) (hb : wb.heap.size ≤ lo) (hg : wb.grownBy w none) :
    Calls Tryz.prog 22 #[.agg #[.slice A nv c, .slice B nf d]] w fun e w' => e = .returned (.tuple #[]) ∧ Spd w w' ∧ wb.grownBy w' none := by
  have hg0 := gr_alloc hg (.cells #[.slice A nv c, .slice B nf d] 29)
  have hs0 : Spd w (w.alloc (.cells #[.slice A nv c, .slice B nf d] 29)) := (Spd.refl w).gr (gr_alloc (World.grownBy.refl _ _) _)
  have b0 := (Cell.new w [.slice A nv c, .slice B nf d] 29 0 _ rfl _ rfl).1
  have b1 := (Cell.new w [.slice A nv c, .slice B nf d] 29 1 _ rfl _ rfl).1
  replace h1 := h1.spd hs0
  replace h2 := h2.spd hs0
  go_enter Tryz.func22, Tryz.ntmps22
  go_upto_region 1 with fail
  generalize w.heap.size = x1 at *
  generalize w.alloc (.cells #[.slice A nv c, .slice B nf d] 29) = W at *
  go_wp2_with fail
  have hz := Spd.refl W
  go_loopw [7] (fun i wr => ∃ k : Nat, k ≤ nv ∧ i = .int .i64 k ∧ Spd W wr ∧ wb.grownBy wr none) (fun i _ => nv - (intOf i).toNat)
  case atStart => exact ⟨0, Nat.zero_le _, rfl, hz, hg0⟩
  case round =>
    obtain ⟨k, hk, rfl, hs, hgr⟩ := hrel
    have z0 := hs.sl b0
    have z1 := hs.sl b1
    by_cases hlt : k < nv
    · obtain ⟨g, o, x, rfl, hl, hc, hf⟩ := (h1.spd hs) k hlt
      have hs2 := hs.set hc 777
      have hg2 := gr_set hgr (p := ⟨g, o + k * 3, none⟩) (.inr (by simp only; omega)) (.int .i64 777)
      go_wp2_with fail
      (go_roundw; (case rel => exact ⟨k + 1, by omega, by go_num, hs2, hg2⟩); (case measure => simp [intOf]; omega))
    · clear hz hg0
      go_wp2_with fail
      go_loopw [19] (fun i wx => ∃ k : Nat, k ≤ nf ∧ i = .int .i64 k ∧ Spd W wx ∧ wb.grownBy wx none) (fun i _ => nf - (intOf i).toNat)
      case atStart => exact ⟨0, Nat.zero_le _, rfl, hs, hgr⟩
      case round =>
        clear z0 z1 hs hgr
        obtain ⟨k, hk, rfl, hs, hgr⟩ := hrel
        have z0 := hs.sl b0
        have z1 := hs.sl b1
        by_cases hlt : k < nf
        · obtain ⟨g, o, x, rfl, hl, hc, hf⟩ := (h2.spd hs) k hlt
          have hs2 := hs.set hc 777
          have hg2 := gr_set hgr (p := ⟨g, o + k * 3, none⟩) (.inr (by simp only; omega)) (.int .i64 777)
          go_wp2_with fail
          (go_roundw; (case rel => exact ⟨k + 1, by omega, by go_num, hs2, hg2⟩); (case measure => simp [intOf]; omega))
        · go_wp2_with fail
          go_end0
          exact ⟨rfl, hs0.trans hs, hgr⟩

set_option maxHeartbeats 2000000 in
theorem spoilInts2_any (A : Option Addr) (n c lo : Nat) (wb w : World) (h1 : RowI w lo A n 1) (hn : n ≤ 100000) (hb : wb.heap.size ≤ lo) (hg : wb.grownBy w none) :
    Calls Tryz.prog 23 #[.slice A n c] w fun e w' => e = .returned (.tuple #[]) ∧ Spd w w' ∧ wb.grownBy w' none := by
  go_enter Tryz.func23, Tryz.ntmps23
  go_wp2_with fail
  have hz := Spd.refl w
  go_loopw [5] (fun i wr => ∃ k : Nat, k ≤ n ∧ i = .int .i64 k ∧ Spd w wr ∧ wb.grownBy wr none) (fun i _ => n - (intOf i).toNat)
  case atStart => exact ⟨0, Nat.zero_le _, rfl, hz, hg⟩
  case round =>
    obtain ⟨k, hk, rfl, hs, hgr⟩ := hrel
    by_cases hlt : k < n
    · obtain ⟨g, o, x, rfl, hl, hc, hf⟩ := (h1.spd hs) k hlt
      rw [Nat.mul_one] at hc hf
      have hs2 := hs.set hc 777
      have hg2 := gr_set hgr (p := ⟨g, o + k, none⟩) (.inr (by simp only; omega)) (.int .i64 777)
      go_wp2_with fail
      (go_roundw; (case rel => exact ⟨k + 1, by omega, by go_num, hs2, hg2⟩); (case measure => simp [intOf]; omega))
    · go_wp2_with fail
      go_end0
      exact ⟨rfl, hs, hgr⟩

end Go.Proofs.YtbpkkgeedkegcaaGreatDoor

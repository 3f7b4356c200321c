/- Contracts of functions that this seat's laws reach, each: what one call returns and what it leaves in memory; no condition beyond each theorem's own hypotheses. -/
import Derived.Test.YtbpkkgeedkegcaaGreatDoorZqMeshCA
import Derived.Test.YtbpkkgeedkegcaaGreatDoorZqMeshOr
import Derived.Deep.DeepCutAuto
set_option linter.unusedVariables false
set_option linter.unusedSimpArgs false
namespace Go.Proofs.YtbpkkgeedkegcaaGreatDoor
open Go.RowKit Go.Bl

theorem tet_closed : ClosedS pyrF := by unfold ClosedS; decide

def CMesh (b : Nat) (N : Int) (w : World) (e : Ending) (w' : World) : Prop := ∃ (A : Option Addr) (c : Nat) (vs : List V3) (B : Option Addr) (d : Nat) (fs : List Fc), e = .returned (.agg #[.slice A vs.length c, .slice B fs.length d]) ∧ Sl w' w.heap.size A vs ∧ Sl w' w.heap.size B fs ∧ SOut b (N + 4480) w w' ∧ meshF ⟨vs, fs⟩ = 0 ∧ vs.length ≤ 100 ∧ fs.length ≤ 100 ∧ ClosedS fs

set_option maxHeartbeats 4000000 in
set_option maxRecDepth 100000 in
theorem closedMesh_any (b : Nat) (N : Int) (w : World) (hs : Strm w b N) (hN : N ≤ 1000000) :
    Calls Tryz.prog 6 #[.pointer (some ⟨b, 0, none⟩)] w (CMesh b N w) := by
  have hbw := hs.lt
  have ho0 : SOut b N w (w.alloc (.cells #[.slice none 0 0, .slice none 0 0] 29)) := (SOut.refl hs).al _
  have r0 : Cell (w.alloc (.cells #[.slice none 0 0, .slice none 0 0] 29)) w.heap.size 0 (.slice none 0 0) := Cell.new w [.slice none 0 0, .slice none 0 0] 29 0 _ rfl _ rfl
  have r1 : Cell (w.alloc (.cells #[.slice none 0 0, .slice none 0 0] 29)) w.heap.size 1 (.slice none 0 0) := Cell.new w [.slice none 0 0, .slice none 0 0] 29 1 _ rfl _ rfl
  go_enter Tryz.func6, Tryz.ntmps6
  go_wp2_with fail
  go_loopw [4] (fun i wr => ∃ k : Nat, k ≤ 8 ∧ i = .int .i64 k ∧ SOut b (N + 560 * k) w wr ∧ Cell wr w.heap.size 0 (.slice none 0 0) ∧ Cell wr w.heap.size 1 (.slice none 0 0)) (fun i _ => 8 - (intOf i).toNat)
  case atStart => exact ⟨0, by omega, rfl, ho0.mono (by omega), r0, r1⟩
  case round =>
    obtain ⟨k, hk, rfl, ho, ⟨x0, y0⟩, ⟨x1, y1⟩⟩ := hrel
    clear r0 r1 ho0
    have hws : w.heap.size < wr.heap.size := cell_lt x0
    by_cases hlt : k < 8
    · go_wp2_with fail
      refine (rightMesh_any b _ wr ho.2 (by omega)).mono ?_
      rintro e w1 ⟨A, c, vs, B, d, fs, rfl, hl, hf, ho1, hM, hvl, hfl⟩
      have hne : some b ≠ some w.heap.size := fun e => by injection e; omega
      replace y0 := gr_froz ho1.1 x0 hne y0
      replace x0 := gr_cell ho1.1 x0 hne
      replace y1 := gr_froz ho1.1 x1 hne y1
      replace x1 := gr_cell ho1.1 x1 hne
      replace ho := ho.trans ho1
      clear ho1
      have hOp := fun W b => openRef_any A vs.length c B d fs W b (by omega)
      have hCL := closed_open (fs := fs)
      replace hM := hide hM
      replace hvl := hide hvl
      replace hfl := hide hfl
      replace hCL := hide hCL
      replace hOp := hide hOp
      go_wp2_with fail
      refine (hOp.out _ ((hf.mono (Nat.zero_le _)).pure (gr_alloc (World.grownBy.refl _ _) _))).mono ?_
      rintro e w9 ⟨l, O, co, rfl, -, hp, -, h1⟩
      have n0 := (h1).k (p := ⟨w1.heap.size, 0, none⟩) (v := .slice A vs.length c) (by go_simp)
      have n1 := (h1).k (p := ⟨w1.heap.size, 1, none⟩) (v := .slice B fs.length d) (by go_simp)
      replace h1 := gr_trans (gr_alloc (World.grownBy.refl w1 none) (.cells #[.slice A vs.length c, .slice B fs.length d] 29)) h1
      have y0 := gr_froz h1 x0 (by simp) y0
      have x0 := h1.k x0
      have y1 := gr_froz h1 x1 (by simp) y1
      have x1 := h1.k x1
      have ho9 := ho.pure h1
      have hl9 := hl.pure h1
      have hf9 := hf.pure h1
      clear h1 hl hf ho hOp
      by_cases hz : l.length = 0
      · have hcl : Hid (ClosedS fs) := by
          rw [Hid, hCL.out]
          have := hp.length_eq
          rw [hz] at this
          exact List.eq_nil_of_length_eq_zero this.symm
        clear hp
        go_wp2_with fail
        have hgs := fun (v1 v2 : Value) => gr_set (gr_set (World.grownBy.refl w9 (some w.heap.size)) (p := ⟨w.heap.size, 0, none⟩) (.inl rfl) v1) (p := ⟨w.heap.size, 1, none⟩) (.inl rfl) v2
        have hk := fun v1 v2 => ho9.new hbw (hgs v1 v2) (fun g e => by injection e; omega)
        refine bodyPost_ret (v := .agg #[.slice A (vs).length c, .slice B (fs).length d]) (by simp [results, Tryz.results6, go_sem, x0, x1, y0, y1, tetL, pyrF]) rfl ⟨A, c, vs, B, d, fs, rfl, ?_, ?_, (hk _ _).mono (by omega), hM.out, by first | exact hvl.out | decide, by first | exact hfl.out | decide, hcl.out⟩
        · exact (hl9.gr (hgs _ _) (fun g e => by injection e; omega)).mono (by omega)
        · exact (hf9.gr (hgs _ _) (fun g e => by injection e; omega)).mono (by omega)
      · have hb : ((l.length : Int) == 0) = false := by simp; intro h; exact hz (by simp [h])
        clear hp
        generalize l.length = ln at *
        go_wp2_with fail
        (go_roundw; (case rel => exact ⟨k + 1, by omega, by go_num, ho9.mono (by omega), ⟨x0, y0⟩, ⟨x1, y1⟩⟩); (case measure => simp [intOf]; omega))
    · go_wp2_with fail
      refine (tetraIs_any ⟨0, 0, 0⟩ 6 _ (by simp [Bd]) (by omega)).mono ?_
      rintro e w9 ⟨A, B, rfl, hl, hf, h1⟩
      have y0 := gr_froz h1 x0 (by simp) y0
      have x0 := h1.k x0
      have y1 := gr_froz h1 x1 (by simp) y1
      have x1 := h1.k x1
      have ho9 := ho.pure h1
      have hsz := ho.size
      have hsz1 := h1.size
      have hl9 := hl
      have hf9 := hf
      clear h1 hl hf ho
      go_wp2_with fail
      have hgs := fun (v1 v2 : Value) => gr_set (gr_set (World.grownBy.refl w9 (some w.heap.size)) (p := ⟨w.heap.size, 0, none⟩) (.inl rfl) v1) (p := ⟨w.heap.size, 1, none⟩) (.inl rfl) v2
      have hk := fun v1 v2 => ho9.new hbw (hgs v1 v2) (fun g e => by injection e; omega)
      refine bodyPost_ret (v := .agg #[.slice A ((tetL ⟨0, 0, 0⟩ 6)).length 4, .slice B (pyrF).length 4]) (by simp [results, Tryz.results6, go_sem, x0, x1, y0, y1, tetL, pyrF]) rfl ⟨A, 4, (tetL ⟨0, 0, 0⟩ 6), B, 4, pyrF, rfl, ?_, ?_, (hk _ _).mono (by omega), tet_ok, by first | exact hvl.out | decide, by first | exact hfl.out | decide, tet_closed⟩
      · exact (hl9.gr (hgs _ _) (fun g e => by injection e; omega)).mono (by omega)
      · exact (hf9.gr (hgs _ _) (fun g e => by injection e; omega)).mono (by omega)

end Go.Proofs.YtbpkkgeedkegcaaGreatDoor

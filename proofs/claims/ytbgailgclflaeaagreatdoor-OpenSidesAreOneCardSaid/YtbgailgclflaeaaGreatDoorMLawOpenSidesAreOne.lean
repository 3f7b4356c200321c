/- Contracts of functions that this seat's laws reach, each: what one call returns and what it leaves in memory; no condition beyond each theorem's own hypotheses. -/
import Derived.Test.YtbgailgclflaeaaGreatDoorMReady
import Derived.Test.YtbgailgclflaeaaGreatDoorMClosM
import Derived.Deep.DeepCutAuto
set_option linter.unusedVariables false
set_option linter.unusedSimpArgs false
namespace Go.Proofs.YtbgailgclflaeaaGreatDoor
open Go Go.RowKit Go.Bl

/-- two rows in two blocks -/
def Two (A B : Option Addr) : Prop := ∀ g, blk A = some g → blk B ≠ some g

theorem Two.symm {A B : Option Addr} (h : Two A B) : Two B A := fun g hb ha => h g ha hb

theorem Two.grew {A A' B : Option Addr} {w w' : World} {lo : Nat} {e : TypeId} {c : Nat} {α : Type} [Enc α] {l : List α} (h : Two A B) (hG : Grew A A' w w') (hB : Own w lo e B c l) : Two A' B := fun g ha hb => by
  rcases hG.2 with h1 | h1
  · exact h g (by rw [← h1]; exact ha) hb
  · rw [h1] at ha
    have := (hB.blk_lt hb).2
    injection ha with ha
    omega

theorem perm_mid {α : Type} (a b : List α) (x : α) : (a ++ [x] ++ b).Perm (a ++ b ++ [x]) := by
  rw [List.append_assoc, List.append_assoc]
  exact List.Perm.append_left a List.perm_append_comm

set_option maxHeartbeats 4000000 in
set_option maxRecDepth 100000 in
theorem openSides_law (A : Option Addr) (n c : Nat) (L : List Int) (w : World) (hL : Sl w 0 A L) (hn : L.length = n) :
    Calls Tryz.prog 3 #[.slice A n c] w fun e w' => e = .returned (.bool true) ∧ w.grownBy w' none := by
  have hs0 := strm_new (c := c) 25 hL hn
  have hg0 := gr_alloc (World.grownBy.refl w none) (.cells #[.slice A n c, .int .i64 0] 25)
  go_enter Tryz.func3, Tryz.ntmps3
  go_wp2_with fail
  refine (closedMesh_any _ 0 _ hs0 (by omega)).mono ?_
  rintro e w1 ⟨A1, c1, vs, B1, d1, fs, rfl, hl, hf, ho1, hM, hvl, hfl, hC⟩
  have hz0 : (w.alloc (.cells #[.slice A n c, .int .i64 0] 25)).heap.size = w.heap.size + 1 := by simp
  rw [hz0] at hl hf
  generalize w.alloc (.cells #[.slice A n c, .int .i64 0] 25) = w0 at *
  have hm2 := hf.1
  unfold maxLen at hm2
  replace hM := hide hM
  replace hC := hide hC
  have hz1 := ho1.size
  go_wp2_with fail
  obtain ⟨W, hW⟩ : ∃ W, W = w1.alloc (.cells #[.slice A1 vs.length c1, .slice B1 fs.length d1] 29) := ⟨_, rfl⟩
  have hWs : w1.heap.size + 1 ≤ W.heap.size := by rw [hW]; simp
  have hoW : SOut w.heap.size (0 + 4480) w0 W := by rw [hW]; exact ho1.al _
  have hlW : Sl W (w.heap.size + 1) A1 vs := by rw [hW]; exact hl.pure (gr_alloc (World.grownBy.refl _ _) _)
  have hfW : Sl W (w.heap.size + 1) B1 fs := by rw [hW]; exact hf.pure (gr_alloc (World.grownBy.refl _ _) _)
  have x0 : W.cell? ⟨w1.heap.size, 0, none⟩ = some (.slice A1 vs.length c1) := by rw [hW]; go_simp
  have x1 : W.cell? ⟨w1.heap.size, 1, none⟩ = some (.slice B1 fs.length d1) := by rw [hW]; go_simp
  rw [← hW]
  clear hl hf ho1 hs0 hW
  generalize w1.heap.size = gx at *
  go_loopw [5, 6, 23] (fun s r i wr => ∃ (k : Nat) (so re : List Fc) (A2 : Option Addr) (c2 : Nat) (A3 : Option Addr) (c3 : Nat), k ≤ fs.length ∧ i = .int .i64 k ∧ s = .slice A2 so.length c2 ∧ r = .slice A3 re.length c3 ∧ Own wr W.heap.size 32 A2 c2 so ∧ Own wr W.heap.size 32 A3 c3 re ∧ Two A2 A3 ∧ Hid ((so ++ re).Perm (fs.take k)) ∧ SOut w.heap.size (4480 + k) W wr) (fun _ _ i _ => fs.length - (intOf i).toNat)
  case atStart => exact ⟨0, [], [], none, 0, none, 0, Nat.zero_le _, rfl, rfl, rfl, Own.nil _ _ _, Own.nil _ _ _, (fun g e => by cases e), List.Perm.refl _, (SOut.refl hoW.2).mono (by omega)⟩
  case round =>
    obtain ⟨k, so, re, A2, c2, A3, c3, hk, rfl, rfl, rfl, hO2, hO3, hT, hP, hS⟩ := hrel
    have hSz := hS.size
    by_cases hlt : k < fs.length
    · have x0' := gr_cell hS.1 x0 (by simp; omega)
      have HK := hide (take_snoc hlt)
      have hPl := hP.out.length_eq
      rw [List.length_append, List.length_take] at hPl
      obtain ⟨g, o, cx, rfl, hb0, hb1, rfl, hc⟩ := (hfW.s hS (by omega)).at_ (by decide) hlt
      have v0 : wr.cell? ⟨g, o + k * 3, none⟩ = some (.int .i64 fs[k].a) := hc 0 _ rfl
      have v1 : wr.cell? ⟨g, o + k * 3 + 1, none⟩ = some (.int .i64 fs[k].b) := hc 1 _ rfl
      have v2 : wr.cell? ⟨g, o + k * 3 + 2, none⟩ = some (.int .i64 fs[k].c) := hc 2 _ rfl
      clear hc
      generalize fs[k] = f at *
      go_wp2_with fail
      refine (flip_any w.heap.size (4480 + k) 2 _ (hS.al _).2 (by omega) (by omega)).mono ?_
      rintro e w2 ⟨fl, rfl, ho2⟩
      have k0 := gr_cell ho2.1 (p := ⟨wr.heap.size, 0, none⟩) (v := .int .i64 f.a) (by go_simp) (by simp; omega)
      have k1 := gr_cell ho2.1 (p := ⟨wr.heap.size, 1, none⟩) (v := .int .i64 f.b) (by go_simp) (by simp; omega)
      have k2 := gr_cell ho2.1 (p := ⟨wr.heap.size, 2, none⟩) (v := .int .i64 f.c) (by go_simp) (by simp; omega)
      have p2 := (hO2.pure (gr_alloc (World.grownBy.refl wr none) (.cells #[.int .i64 f.a, .int .i64 f.b, .int .i64 f.c] 32))).s ho2 (by omega)
      have p3 := (hO3.pure (gr_alloc (World.grownBy.refl wr none) (.cells #[.int .i64 f.a, .int .i64 f.b, .int .i64 f.c] 32))).s ho2 (by omega)
      have hS2 := (hS.al (.cells #[.int .i64 f.a, .int .i64 f.b, .int .i64 f.c] 32)).trans ho2
      have hzs := hS2.size
      clear ho2 hO2 hO3 v0 v1 v2 hS x0'
      cases fl with
      | true =>
        go_wp2_with (at_builtin; obtain ⟨i0, hi, hz, h1, h2⟩ := info_parts info_face; refine wpList_pushAt (α := Fc) _ rfl (.tmp 29) (.tmp 31) _ rfl W.heap.size 32 i0 _ 24 Tryz.underlying27 hi hz h1 h2 rfl A2 _ c2 so rfl rfl (by exact (p2).pure (by repeat (first | exact World.grownBy.refl _ _ | assumption | refine gr_alloc ?_ _ | (apply gr_tail; assumption) | refine gr_drewN ?_ _ | refine gr_drew ?_))) 0 ⟨_, 0, none⟩ 1 1 [f] rfl rfl (by exact sl_oneAt _ 0 [.int .i64 f.a, .int .i64 f.b, .int .i64 f.c] _ _ _ (by first | rfl | simp) (Nat.zero_le _) rfl) ?c2 ?c3 ?c4 ?_)
        case c2 => simp; omega
        case c3 => simp [maxLen]; omega
        case c4 => simp; omega
        intro A9 c9 w9 hO9 hG9
        have q3 := (p3.pure (gr_alloc (World.grownBy.refl _ none) (.cells #[.int .i64 f.a, .int .i64 f.b, .int .i64 f.c] 32))).ne hG9.1 (fun g hb e => hT g e hb)
        have hT9 := hT.grew hG9 (p3.pure (gr_alloc (World.grownBy.refl _ none) (.cells #[.int .i64 f.a, .int .i64 f.b, .int .i64 f.c] 32)))
        have hS9 := (hS2.al (.cells #[.int .i64 f.a, .int .i64 f.b, .int .i64 f.c] 32)).new (by omega) hG9.1 (fun g e => (p2.blk_lt e).1)
        have hP9 : Hid ((so ++ [f] ++ re).Perm (fs.take (k + 1))) := by
          rw [Hid, HK.out]
          exact (perm_mid so re f).trans (hP.out.append_right [f])
        clear hG9 p2 p3 hS2
        go_wp2
        go_roundw
        case rel => exact ⟨k + 1, so ++ [f], re, A9, c9, A3, c3, by omega, by go_num, by simp, rfl, hO9, q3, hT9, hP9, hS9.mono (by omega)⟩
        case measure => simp [intOf]; omega
      | false =>
        go_wp2_with (at_builtin; obtain ⟨i0, hi, hz, h1, h2⟩ := info_parts info_face; refine wpList_pushAt (α := Fc) _ rfl (.tmp 33) (.tmp 35) _ rfl W.heap.size 32 i0 _ 24 Tryz.underlying27 hi hz h1 h2 rfl A3 _ c3 re rfl rfl (by exact (p3).pure (by repeat (first | exact World.grownBy.refl _ _ | assumption | refine gr_alloc ?_ _ | (apply gr_tail; assumption) | refine gr_drewN ?_ _ | refine gr_drew ?_))) 0 ⟨_, 0, none⟩ 1 1 [f] rfl rfl (by exact sl_oneAt _ 0 [.int .i64 f.a, .int .i64 f.b, .int .i64 f.c] _ _ _ (by first | rfl | simp) (Nat.zero_le _) rfl) ?c2 ?c3 ?c4 ?_)
        case c2 => simp; omega
        case c3 => simp [maxLen]; omega
        case c4 => simp; omega
        intro A9 c9 w9 hO9 hG9
        have q2 := (p2.pure (gr_alloc (World.grownBy.refl _ none) (.cells #[.int .i64 f.a, .int .i64 f.b, .int .i64 f.c] 32))).ne hG9.1 (fun g hb e => hT g hb e)
        have hT9 := (hT.symm.grew hG9 (p2.pure (gr_alloc (World.grownBy.refl _ none) (.cells #[.int .i64 f.a, .int .i64 f.b, .int .i64 f.c] 32)))).symm
        have hS9 := (hS2.al (.cells #[.int .i64 f.a, .int .i64 f.b, .int .i64 f.c] 32)).new (by omega) hG9.1 (fun g e => (p3.blk_lt e).1)
        have hP9 : Hid ((so ++ (re ++ [f])).Perm (fs.take (k + 1))) := by
          rw [Hid, HK.out, ← List.append_assoc]
          exact hP.out.append_right [f]
        clear hG9 p2 p3 hS2
        go_wp2
        go_roundw
        case rel => exact ⟨k + 1, so, re ++ [f], A2, c2, A9, c9, by omega, by go_num, rfl, by simp, q2, hO9, hT9, hP9, hS9.mono (by omega)⟩
        case measure => simp [intOf]; omega
    · rw [List.take_of_length_le (show fs.length ≤ k by omega)] at hP
      obtain ⟨wa, rfl⟩ : ∃ x, x = wr := ⟨wr, rfl⟩
      have x0' := gr_cell hS.1 x0 (by simp; omega)
      have hgE := gr_new hg0 (hoW.trans hS).1 (Nat.le_refl _)
      by_cases h1 : so.length = 0
      · have h1' := hide h1
        go_wp2_with fail
        refine (ready_any _).mono ?_
        rintro e w9 ⟨rfl, h9⟩
        go_wp2_with fail
        go_ret
        exact ⟨rfl, gr_trans hgE h9⟩
      · by_cases h2 : re.length = 0
        · have h1' : ((so.length : Int) == 0) = false := by simp; intro h; exact h1 (by simp [h])
          go_wp2_with fail
          refine (ready_any _).mono ?_
          rintro e w9 ⟨rfl, h9⟩
          go_wp2_with fail
          go_ret
          exact ⟨rfl, gr_trans hgE h9⟩
        · have h1' : ((so.length : Int) == 0) = false := by simp; intro h; exact h1 (by simp [h])
          have h2' : ((re.length : Int) == 0) = false := by simp; intro h; exact h2 (by simp [h])
          have hso : so ≠ [] := by rintro rfl; exact h1 rfl
          have hre : re ≠ [] := by rintro rfl; exact h2 rfl
          have hMa := mesh_part hM.out hso hP.out
          have hMb := mesh_part hM.out hre (List.perm_append_comm.trans hP.out)
          obtain ⟨hlen, hrev⟩ := open_parts hC.out (meshOk.1 hM.out).once hP.out
          replace hlen := hide hlen
          replace hrev := hide hrev
          have hl2 := hlW.s hS (by omega)
          have hOa := hide fun W h1 h2 => openGo_any A1 c1 vs A2 c2 so W h1 h2 hMa
          have hOb := hide fun W h1 h2 => openGo_any A1 c1 vs A3 c3 re W h1 h2 hMb
          have hsA := (hO2.sl.mono (Nat.zero_le _))
          have hsB := (hO3.sl.mono (Nat.zero_le _))
          replace hl2 := hl2.mono (Nat.zero_le _)
          clear h1 h2 hso hre hMa hMb hO2 hO3 hT hP
          generalize so.length = sl at *
          go_wp2_with fail
          refine (hOa.out _ hl2 hsA).mono ?_
          rintro e wb ⟨la, Oa, ca, rfl, hoa, hpa, -, g1⟩
          replace x0' := g1.k x0'
          replace hl2 := hl2.pure g1
          replace hsB := hsB.pure g1
          replace hpa := hide hpa
          clear hOa hsA
          go_wp2_with fail
          refine (hOb.out _ hl2 hsB).mono ?_
          rintro e wc ⟨lb, Ob, cb, rfl, hob, hpb, -, g2⟩
          have hll : la.length = lb.length := hpa.out.length_eq.trans (hlen.out.trans hpb.length_eq.symm)
          have hmem : Hid (∀ j (hj : j < la.length), rvS la[j] ∈ lb) := fun j hj => hpb.mem_iff.2 (hrev.out _ (hpa.out.mem_iff.1 (List.getElem_mem hj)))
          have hla := (hoa.sl.mono (Nat.zero_le _)).pure g2
          have hlb := hob.sl.mono (Nat.zero_le _)
          have hgF := gr_trans hgE (gr_trans g1 g2)
          have hml := hla.1
          unfold maxLen at hml
          clear hOb hpa hpb hlen hrev hoa hob hl2 hsB g1 g2 x0' hgE hS hSz
          rw [hll] at hml ⊢
          replace hll := hide hll
          go_wp2_with fail
          go_loopw [78] (fun i wr => ∃ j : Nat, j ≤ lb.length ∧ i = .int .i64 j ∧ wc.grownBy wr none) (fun i _ => lb.length - (intOf i).toNat)
          case atStart => exact ⟨0, Nat.zero_le _, rfl, World.grownBy.refl _ _⟩
          case round =>
            obtain ⟨j, hj, rfl, g6⟩ := hrel
            by_cases hjt : j < lb.length
            · have hja : j < la.length := by rw [hll.out]; exact hjt
              have hin := hmem.out j hja
              obtain ⟨gl, ol, cx, rfl, hb0, hb1, rfl, hc⟩ := (hla.pure g6).at_ (by decide) hja
              have v0 : wr.cell? ⟨gl, ol + j * 2, none⟩ = some (.int .i64 la[j].u) := hc 0 _ rfl
              have v1 : wr.cell? ⟨gl, ol + j * 2 + 1, none⟩ = some (.int .i64 la[j].v) := hc 1 _ rfl
              clear hc
              have hcon := fun W h => containsSide_any Ob lb.length cb lb (rvS la[j]) W h rfl
              rw [decide_eq_true hin] at hcon
              replace hcon := hide (hcon _ ((hlb.pure g6).pure (gr_alloc (World.grownBy.refl _ none) (.cells #[.int .i64 la[j].u, .int .i64 la[j].v] 40))))
              clear hin
              generalize la[j] = s at *
              go_wp2_with fail
              refine hcon.out.mono ?_
              rintro e w3 ⟨rfl, hg3⟩
              replace hg3 := gr_trans (gr_alloc (World.grownBy.refl wr none) (.cells #[.int .i64 s.u, .int .i64 s.v] 40)) hg3
              clear hcon v0 v1
              go_wp2_with fail
              (go_roundw; (case rel => exact ⟨j + 1, by omega, by go_num, gr_trans g6 hg3⟩); (case measure => simp [intOf]; omega))
            · go_wp2_with fail
              refine (ready_any _).mono ?_
              rintro e w9 ⟨rfl, h9⟩
              go_wp2_with fail
              go_ret
              exact ⟨rfl, gr_trans hgF (gr_trans g6 h9)⟩

end Go.Proofs.YtbgailgclflaeaaGreatDoor

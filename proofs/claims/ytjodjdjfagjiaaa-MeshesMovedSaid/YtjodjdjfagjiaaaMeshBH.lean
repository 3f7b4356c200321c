/- Contracts of functions that this seat's laws reach, each: what one call returns and what it leaves in memory; no condition beyond each theorem's own hypotheses. -/
import Derived.Test.YtjodjdjfagjiaaaMeshBG
import Derived.Test.YtjodjdjfagjiaaaMeshV
set_option linter.unusedVariables false
set_option linter.unusedSimpArgs false
namespace Go.Proofs.Ytjodjdjfagjiaaa
open Go.RowKit Go.Bl

def swp (f : Fc) : Fc := ⟨f.a, f.c, f.b⟩
def mirM (m : MeshV) (axis : Int) : MeshV := ⟨m.vs.map (mirV axis), m.fs.map swp⟩
def mirR (m : MeshV) (axis : Int) : MeshV × Int := if meshF m = 0 then (if outB axis 0 2 = true then (⟨[], []⟩, 4) else (okM (mirM m axis), meshF (mirM m axis))) else (⟨[], []⟩, meshF m)
theorem own_setFc {w : World} {lo : Nat} {e : TypeId} {g c : Nat} {l : List Fc} (h : Own w lo e (some ⟨g, 0, none⟩) c l) {i : Nat} (hi : i < l.length) (x : Fc) :
    Own (((w.setCell ⟨g, i * 3, none⟩ (.int .i64 x.a)).setCell ⟨g, i * 3 + 1, none⟩ (.int .i64 x.b)).setCell ⟨g, i * 3 + 2, none⟩ (.int .i64 x.c)) lo e (some ⟨g, 0, none⟩) c (l.set i x) := by
  have h1 := h.put (i := i) (j := 0) (x := (⟨x.a, l[i].b, l[i].c⟩ : Fc)) (u := .int .i64 x.a) hi (by decide) (by rintro c1 rfl; rfl)
  have h2 := h1.put (i := i) (j := 1) (x := (⟨x.a, x.b, l[i].c⟩ : Fc)) (u := .int .i64 x.b) (by simpa using hi) (by decide) (by rw [List.getElem_set_self]; rintro c1 rfl; rfl)
  have h3 := h2.put (i := i) (j := 2) (x := (⟨x.a, x.b, x.c⟩ : Fc)) (u := .int .i64 x.c) (by simpa using hi) (by decide) (by rw [List.getElem_set_self]; rintro c1 rfl; rfl)
  rw [List.set_set, List.set_set] at h3
  exact h3
theorem swp_step {fs : List Fc} {k : Nat} (hk : k < fs.length) : ((fs.take k).map swp ++ fs.drop k).set k (swp fs[k]) = (fs.take (k + 1)).map swp ++ fs.drop (k + 1) := by
  have hl : ((fs.take k).map swp).length = k := by rw [List.length_map, List.length_take]; omega
  rw [List.set_append_right _ _ (by omega), hl, Nat.sub_self, List.drop_eq_getElem_cons hk, List.set_cons_zero, take_snoc hk, List.map_append, List.append_assoc]
  rfl
theorem swp_at {fs : List Fc} {k : Nat} (hk : k < fs.length) (h : k < ((fs.take k).map swp ++ fs.drop k).length) : ((fs.take k).map swp ++ fs.drop k)[k] = fs[k] := by
  have hl : ((fs.take k).map swp).length = k := by rw [List.length_map, List.length_take]; omega
  rw [List.getElem_append_right (by omega)]
  simp only [hl, Nat.sub_self, List.getElem_drop, Nat.add_zero]
theorem swp_len {fs : List Fc} {k : Nat} (hk : k ≤ fs.length) : ((fs.take k).map swp ++ fs.drop k).length = fs.length := by
  rw [List.length_append, List.length_map, List.length_take, List.length_drop]; omega

set_option maxHeartbeats 2000000 in
set_option maxRecDepth 100000 in
theorem mirrored_any (A : Option Addr) (c : Nat) (vs : List V3) (B : Option Addr) (d : Nat) (fs : List Fc) (axis : Int) (w : World) (hl : Sl w 0 A vs) (hfs : Sl w 0 B fs) :
    Calls Try.prog 21 #[.agg #[.slice A vs.length c, .slice B fs.length d], .int .i64 axis] w (SMeshE w.heap.size (mirR ⟨vs, fs⟩ axis).1 (mirR ⟨vs, fs⟩ axis).2 w) := by
  have hmf : ∀ (fn : Fn) (first cap : Array Value) (w : World), (Instr.makeFunc fn first cap).run Try.prog w = .ok (.func fn first cap) w := fun _ _ _ _ => rfl
  obtain ⟨W, hW⟩ : ∃ W, W = ((w.alloc (.cells #[.slice A vs.length c, .slice B fs.length d] 29)).alloc (.cells #[.int .i64 axis] 3)).alloc (.cells #[.slice none 0 0, .slice none 0 0] 29) := ⟨_, rfl⟩
  have hlt0 : w.heap.size < w.heap.size + 1 := Nat.lt_succ_self _
  have hlt1 : w.heap.size < w.heap.size + 1 + 1 := by omega
  have hWs : W.heap.size = w.heap.size + 1 + 1 + 1 := by rw [hW]; simp
  have hg0 : w.grownBy W none := by rw [hW]; exact (by repeat (first | exact World.grownBy.refl _ _ | assumption | refine gr_alloc ?_ _ | (apply gr_tail; assumption) | refine gr_drewN ?_ _ | refine gr_drew ?_))
  have b0 : W.cell? ⟨w.heap.size, 0, none⟩ = some (.slice A vs.length c) := by rw [hW]; go_simp
  have b1 : W.cell? ⟨w.heap.size, 1, none⟩ = some (.slice B fs.length d) := by rw [hW]; go_simp
  have ba : W.cell? ⟨w.heap.size + 1, 0, none⟩ = some (.int .i64 axis) := by rw [hW]; go_simp
  have q0 : Cell W (w.heap.size + 1 + 1) 0 (.slice none 0 0) := by rw [hW]; exact ⟨by go_simp, by go_simp⟩
  have q1 : Cell W (w.heap.size + 1 + 1) 1 (.slice none 0 0) := by rw [hW]; exact ⟨by go_simp, by go_simp⟩
  replace hW := hide hW.symm
  replace hWs := hide hWs
  have hlW := hl.pure hg0
  have hfW := hfs.pure hg0
  have hCM := checkMesh_any A c vs B d fs W hlW hfW
  by_cases hM : meshF ⟨vs, fs⟩ = 0
  · rw [hM] at hCM
    replace hCM := hide hCM
    cases hax : outB axis 0 2 with
    | true =>
      rw [show mirR ⟨vs, fs⟩ axis = (⟨[], []⟩, 4) by unfold mirR; rw [if_pos hM, if_pos hax]]
      replace hax := hide hax
      clear hM
      go_enter Try.func21, Try.ntmps21
      go_wp2_with fail
      rw [hW.out]
      refine hCM.out.mono ?_
      rintro e w1 ⟨rfl, hg1⟩
      replace ba := hg1.k ba
      obtain ⟨x0, y0⟩ := q0.gr hg1 (by simp)
      obtain ⟨x1, y1⟩ := q1.gr hg1 (by simp)
      have hg2 := gr_trans hg0 hg1
      go_wp2_with fail
      refine (isAxis_any _ _).mono ?_
      rintro e w2 ⟨rfl, rfl⟩
      rw [hax.out]
      go_wp2_with fail
      have hk := fun (v1 v2 : Value) => gr_set (gr_set hg2 (p := ⟨w.heap.size + 1 + 1, 0, none⟩) (.inr (by simp only; omega)) v1) (p := ⟨w.heap.size + 1 + 1, 1, none⟩) (.inr (by simp only; omega)) v2
      exact bodyPost_ret (v := .tuple #[.agg #[.slice none 0 0, .slice none 0 0], .int .i64 (4)]) (by simp [results, Try.results21, go_sem, x0, x1, y0, y1]) rfl ⟨none, 0, none, 0, rfl, slNil _ _ _, slNil _ _ _, hk _ _⟩
    | false =>
      rw [show mirR ⟨vs, fs⟩ axis = (okM ⟨vs.map (mirV axis), fs.map swp⟩, meshF ⟨vs.map (mirV axis), fs.map swp⟩) by unfold mirR; rw [if_pos hM, if_neg (by rw [hax]; simp)]; rfl]
      obtain ⟨hbd, hvl, hfl, _, _⟩ := right_bd hM
      have hcl : ∀ w1, W.grownBy w1 none → Hid (∀ v ∈ vs, ∀ wx, w1.grownBy wx none → Calls Try.prog 69 #[.agg #[.int .i64 v.x, .int .i64 v.y, .int .i64 v.z], .pointer (some ⟨w.heap.size + 1, 0, none⟩)] wx fun e w' => e = .returned (.agg #[.int .i64 (mirV axis v).x, .int .i64 (mirV axis v).y, .int .i64 (mirV axis v).z]) ∧ wx.grownBy w' none) :=
        fun w1 hg v hv wx hx => mirClo_any _ axis v wx (hbd v hv) ((gr_trans hg hx).k ba)
      replace hcl := hide hcl
      replace hax := hide hax
      replace hbd := hide hbd
      clear hM
      go_enter Try.func21, Try.ntmps21
      go_wp2_with fail
      rw [hW.out]
      refine hCM.out.mono ?_
      rintro e w1 ⟨rfl, hg1⟩
      replace ba := hg1.k ba
      replace b0 := hg1.k b0
      replace b1 := hg1.k b1
      replace q0 := hide (q0.gr hg1 (by simp))
      replace q1 := hide (q1.gr hg1 (by simp))
      have hg2 := gr_trans hg0 hg1
      go_wp2_with fail
      refine (isAxis_any _ _).mono ?_
      rintro e w2 ⟨rfl, rfl⟩
      rw [hax.out]
      go_wp2_with fail
      refine (mapMir_any (mirV axis) _ A c vs B d fs _ (hlW.pure hg1) (hfW.pure hg1) hvl hfl (hcl.out _ hg1)).mono ?_
      rintro e w2 ⟨A2, c2, B2, d2, rfl, hA2, hB2, hdis, hg3⟩
      replace q0 := hide (q0.out.gr hg3 (by simp))
      replace q1 := hide (q1.out.gr hg3 (by simp))
      have hgX := gr_trans hg2 hg3
      have hsz1 := hg1.size
      have hA2lt := fun g e => hA2.blk_lt (g := g) e
      have hB2lt := fun g e => hB2.blk_lt (g := g) e
      clear hg2 hcl hCM hW b0 b1 ba
      go_wp2_with fail
      obtain ⟨Wb, hWb⟩ : ∃ Wb, Wb = w2.alloc (.cells #[.slice A2 vs.length c2, .slice B2 fs.length d2] 29) := ⟨_, rfl⟩
      have hgb : w2.grownBy Wb none := by rw [hWb]; exact gr_alloc (World.grownBy.refl _ _) _
      have m0 : Cell Wb w2.heap.size 0 (.slice A2 vs.length c2) := by rw [hWb]; exact Cell.new w2 [.slice A2 vs.length c2, .slice B2 fs.length d2] 29 0 _ rfl _ rfl
      have m1 : Cell Wb w2.heap.size 1 (.slice B2 fs.length d2) := by rw [hWb]; exact Cell.new w2 [.slice A2 vs.length c2, .slice B2 fs.length d2] 29 1 _ rfl _ rfl
      rw [← hWb]
      clear hWb
      have hg4 := gr_trans hgX hgb
      replace hA2 := hA2.pure hgb
      replace hB2 := hB2.pure hgb
      replace q0 := hide (q0.out.gr hgb (by simp))
      replace q1 := hide (q1.out.gr hgb (by simp))
      replace hA2lt := hide hA2lt
      replace hB2lt := hide hB2lt
      replace hdis := hide hdis
      go_loopw [26] (fun i wr => ∃ (k : Nat), k ≤ fs.length ∧ i = .int .i64 k ∧ Own wr w1.heap.size 67 B2 d2 ((fs.take k).map swp ++ fs.drop k) ∧ Wb.grownBy wr (blk B2)) (fun i _ => fs.length - (intOf i).toNat)
      case atStart => exact ⟨0, by omega, rfl, by simpa using hB2, World.grownBy.refl _ _⟩
      case round =>
        obtain ⟨k, hk, rfl, hown, hg⟩ := hrel
        have hne : ∀ g, blk B2 = some g → g ≠ w2.heap.size := fun g e => by have := hB2lt.out g e; omega
        have n1 := m1.gr hg (fun e => hne _ e rfl)
        have n0 := m0.gr hg (fun e => hne _ e rfl)
        have hlb := n1.lt
        by_cases hlt : k < fs.length
        · have hll := swp_len (Nat.le_of_lt hlt)
          obtain ⟨gB, rfl, -⟩ := hown.shape (by omega)
          obtain ⟨c9, hrep, hcell⟩ := hown.cell_at (i := k) (by decide) (by omega)
          rw [swp_at hlt] at hrep
          subst hrep
          have x0 : wr.cell? ⟨gB, k * 3, none⟩ = some (.int .i64 fs[k].a) := hcell 0 _ rfl
          have x1 : wr.cell? ⟨gB, k * 3 + 1, none⟩ = some (.int .i64 fs[k].b) := hcell 1 _ rfl
          have x2 : wr.cell? ⟨gB, k * 3 + 2, none⟩ = some (.int .i64 fs[k].c) := hcell 2 _ rfl
          have f0 := hown.frozen (k * 3)
          have f1 := hown.frozen (k * 3 + 1)
          have f2 := hown.frozen (k * 3 + 2)
          have hS := own_setFc hown (i := k) (by omega) (swp fs[k])
          rw [swp_step hlt] at hS
          have hgs := fun (u : World) (a1 a2 a3 : Value) => gr_set (gr_set (gr_set (World.grownBy.refl u (some gB)) (p := ⟨gB, k * 3, none⟩) (.inl rfl) a1) (p := ⟨gB, k * 3 + 1, none⟩) (.inl rfl) a2) (p := ⟨gB, k * 3 + 2, none⟩) (.inl rfl) a3
          have hgBlt := (hown.blk_lt (g := gB) rfl).2
          replace hS := hide hS
          replace hgs := hide hgs
          have hgB : Wb.grownBy wr (some gB) := hg
          replace hgB := hide hgB
          obtain ⟨n1, -⟩ := n1
          clear hg hcell hown n0 hll
          generalize fs[k] = f at *
          go_wp2_with fail
          (go_roundw; (case rel => exact ⟨k + 1, by omega, by go_num, hS.out.pure (gr_alloc (World.grownBy.refl _ _) _), (show Wb.grownBy _ (some gB) from gr_alloc (gr_trans hgB.out (hgs.out _ _ _ _)) _)⟩); (case measure => simp [intOf]; omega))
        · have hkn : k = fs.length := by omega
          subst hkn
          rw [List.take_length, List.drop_length, List.append_nil] at hown
          have hAn := hA2.ne hg (fun g e1 e2 => hdis.out g e1 e2)
          have hgw : w.grownBy wr none := gr_row hg4 hg (fun g e => by have := hB2lt.out g e; have := hWs.out; omega)
          have hne2 : ∀ g, blk B2 = some g → g ≠ w.heap.size + 1 + 1 := fun g e => by have := hB2lt.out g e; have := hWs.out; omega
          replace q0 := hide (q0.out.gr hg (fun e => hne2 _ e rfl))
          replace q1 := hide (q1.out.gr hg (fun e => hne2 _ e rfl))
          have hlm : (vs.map (mirV axis)).length = vs.length := List.length_map _
          have hlf : (fs.map swp).length = fs.length := List.length_map _
          have hR := checked_any A2 c2 (vs.map (mirV axis)) B2 d2 (fs.map swp) wr w1.heap.size hAn.sl hown.sl
          rw [hlm, hlf] at hR
          replace hR := hide hR
          obtain ⟨n0, -⟩ := n0
          obtain ⟨n1, -⟩ := n1
          clear hown hAn hg m0 m1 hlm hlf
          go_wp2_with fail
          refine hR.out.mono ?_
          rintro e w9 ⟨A9, c9, B9, d9, rfl, s1, s2, hg9⟩
          obtain ⟨x0, y0⟩ := q0.out.gr hg9 (by simp)
          obtain ⟨x1, y1⟩ := q1.out.gr hg9 (by simp)
          have hg2 := gr_trans hgw hg9
          have hWl := hWs.out
          clear hR
          go_wp2_with fail
          have hk := fun (v1 v2 : Value) => gr_set (gr_set hg2 (p := ⟨w.heap.size + 1 + 1, 0, none⟩) (.inr (by simp only; omega)) v1) (p := ⟨w.heap.size + 1 + 1, 1, none⟩) (.inr (by simp only; omega)) v2
          have hgs := fun (v1 v2 : Value) => gr_set (gr_set (World.grownBy.refl w9 (some (w.heap.size + 1 + 1))) (p := ⟨w.heap.size + 1 + 1, 0, none⟩) (.inl rfl) v1) (p := ⟨w.heap.size + 1 + 1, 1, none⟩) (.inl rfl) v2
          refine bodyPost_ret (v := .tuple #[.agg #[.slice A9 (okM ⟨vs.map (mirV axis), fs.map swp⟩).vs.length c9, .slice B9 (okM ⟨vs.map (mirV axis), fs.map swp⟩).fs.length d9], .int .i64 (meshF ⟨vs.map (mirV axis), fs.map swp⟩)]) (by simp [results, Try.results21, go_sem, x0, x1, y0, y1]) rfl ⟨A9, c9, B9, d9, rfl, (s1.gr (hgs _ _) (fun g e => by injection e; omega)).mono (by omega), (s2.gr (hgs _ _) (fun g e => by injection e; omega)).mono (by omega), hk _ _⟩
  · rw [show mirR ⟨vs, fs⟩ axis = (⟨[], []⟩, meshF ⟨vs, fs⟩) by unfold mirR; rw [if_neg hM]]
    generalize meshF ⟨vs, fs⟩ = F at *
    replace hCM := hide hCM
    go_enter Try.func21, Try.ntmps21
    go_wp2_with fail
    rw [hW.out]
    refine hCM.out.mono ?_
    rintro e w1 ⟨rfl, hg1⟩
    obtain ⟨x0, y0⟩ := q0.gr hg1 (by simp)
    obtain ⟨x1, y1⟩ := q1.gr hg1 (by simp)
    have hg2 := gr_trans hg0 hg1
    go_wp2_with fail
    have hk := fun (v1 v2 : Value) => gr_set (gr_set hg2 (p := ⟨w.heap.size + 1 + 1, 0, none⟩) (.inr (by simp only; omega)) v1) (p := ⟨w.heap.size + 1 + 1, 1, none⟩) (.inr (by simp only; omega)) v2
    exact bodyPost_ret (v := .tuple #[.agg #[.slice none 0 0, .slice none 0 0], .int .i64 (F)]) (by simp [results, Try.results21, go_sem, x0, x1, y0, y1]) rfl ⟨none, 0, none, 0, rfl, slNil _ _ _, slNil _ _ _, hk _ _⟩

set_option maxHeartbeats 2000000 in
set_option maxRecDepth 100000 in
theorem mirroredRef_any (A : Option Addr) (c : Nat) (vs : List V3) (B : Option Addr) (d : Nat) (fs : List Fc) (axis : Int) (w : World) (hl : Sl w 0 A vs) (hfs : Sl w 0 B fs) (hM : meshF ⟨vs, fs⟩ = 0) :
    Calls Try.prog 25 #[.agg #[.slice A vs.length c, .slice B fs.length d], .int .i64 axis] w (SMeshE w.heap.size (okM ⟨vs.map (mirV axis), fs.map swp⟩) (meshF ⟨vs.map (mirV axis), fs.map swp⟩) w) := by
  have hmf : ∀ (fn : Fn) (first cap : Array Value) (w : World), (Instr.makeFunc fn first cap).run Try.prog w = .ok (.func fn first cap) w := fun _ _ _ _ => rfl
  obtain ⟨W, hW⟩ : ∃ W, W = ((w.alloc (.cells #[.slice A vs.length c, .slice B fs.length d] 29)).alloc (.cells #[.int .i64 axis] 3)).alloc (.cells #[.slice none 0 0, .slice none 0 0] 29) := ⟨_, rfl⟩
  have hlt0 : w.heap.size < w.heap.size + 1 := Nat.lt_succ_self _
  have hlt1 : w.heap.size < w.heap.size + 1 + 1 := by omega
  have hWs : W.heap.size = w.heap.size + 1 + 1 + 1 := by rw [hW]; simp
  have hg0 : w.grownBy W none := by rw [hW]; exact (by repeat (first | exact World.grownBy.refl _ _ | assumption | refine gr_alloc ?_ _ | (apply gr_tail; assumption) | refine gr_drewN ?_ _ | refine gr_drew ?_))
  have b0 : W.cell? ⟨w.heap.size, 0, none⟩ = some (.slice A vs.length c) := by rw [hW]; go_simp
  have b1 : W.cell? ⟨w.heap.size, 1, none⟩ = some (.slice B fs.length d) := by rw [hW]; go_simp
  have ba : W.cell? ⟨w.heap.size + 1, 0, none⟩ = some (.int .i64 axis) := by rw [hW]; go_simp
  have q0 : Cell W (w.heap.size + 1 + 1) 0 (.slice none 0 0) := by rw [hW]; exact ⟨by go_simp, by go_simp⟩
  have q1 : Cell W (w.heap.size + 1 + 1) 1 (.slice none 0 0) := by rw [hW]; exact ⟨by go_simp, by go_simp⟩
  replace hW := hide hW.symm
  replace hWs := hide hWs
  have hlW := hl.pure hg0
  have hfW := hfs.pure hg0
  obtain ⟨hbd, hvl, hfl, _, _⟩ := right_bd hM
  replace hbd := hide hbd
  clear hM
  go_enter Try.func25, Try.ntmps25
  go_wp2_with fail
  rw [hW.out]
  refine (cloneV3_any A c vs _ hlW (by omega)).mono ?_
  rintro e w1 ⟨A1, c1, rfl, hA1, hg1⟩
  replace b1 := hg1.k b1
  replace ba := hg1.k ba
  replace q0 := hide (q0.gr hg1 (by simp))
  replace q1 := hide (q1.gr hg1 (by simp))
  have hg2 := gr_trans hg0 hg1
  have hsz1 := hg1.size
  have hlt2 := cell_lt ba
  simp only at hlt2
  have hlt3 := cell_lt b1
  simp only at hlt3
  have hlt4 : w.heap.size < w1.heap.size + 1 := by omega
  have hfW1 := hfW.pure hg1
  clear hW b0
  go_wp2_with fail
  obtain ⟨Wb, hWb⟩ : ∃ Wb, Wb = w1.alloc (.cells #[.slice A1 vs.length c1, .slice none 0 0] 29) := ⟨_, rfl⟩
  have hgb : w1.grownBy Wb none := by rw [hWb]; exact gr_alloc (World.grownBy.refl _ _) _
  have m0 : Cell Wb w1.heap.size 0 (.slice A1 vs.length c1) := by rw [hWb]; exact Cell.new w1 [.slice A1 vs.length c1, .slice none 0 0] 29 0 _ rfl _ rfl
  have m1 : Cell Wb w1.heap.size 1 (.slice none 0 0) := by rw [hWb]; exact Cell.new w1 [.slice A1 vs.length c1, .slice none 0 0] 29 1 _ rfl _ rfl
  have hWbs : Wb.heap.size = w1.heap.size + 1 := by rw [hWb]; simp
  rw [← hWb]
  clear hWb
  have hg4 := gr_trans hg2 hgb
  have hAlt := hide (fun g e => (hA1.blk_lt (g := g) e).2)
  replace hA1 := hA1.pure hgb
  replace hfW1 := hfW1.pure hgb
  replace ba := hgb.k ba
  replace q0 := hide (q0.out.gr hgb (by simp))
  replace q1 := hide (q1.out.gr hgb (by simp))
  go_loopw [16] (fun i wr => ∃ (k : Nat) (B2 : Option Addr) (d2 : Nat), k ≤ fs.length ∧ i = .int .i64 k ∧ Own wr Wb.heap.size 67 B2 d2 ((fs.take k).map swp) ∧ Cell wr w1.heap.size 0 (.slice A1 vs.length c1) ∧ Cell wr w1.heap.size 1 (.slice B2 k d2) ∧ Wb.grownBy wr (some w1.heap.size)) (fun i _ => fs.length - (intOf i).toNat)
  case atStart => exact ⟨0, none, 0, by omega, rfl, Own.nil _ _ _, m0, m1, World.grownBy.refl _ _⟩
  case round =>
    obtain ⟨k, B2, d2, hk, rfl, hown, n0, n1, hg⟩ := hrel
    clear m0 m1
    by_cases hlt : k < fs.length
    · have hfr := hfW1.gr hg
      have hgw1 : w.grownBy wr none := gr_row hg4 hg (fun g e => by injection e; omega)
      obtain ⟨gB, o, rfl, -, hbg, hcc⟩ := (hfs.pure hgw1).fc (by omega)
      obtain ⟨x0, x1, x2⟩ := hcc k hlt
      clear hcc hfr
      have hll : ((fs.take k).map swp).length = k := by rw [List.length_map, List.length_take]; omega
      have hls : (fs.take (k + 1)).map swp = (fs.take k).map swp ++ [swp fs[k]] := by rw [take_snoc hlt, List.map_append]; rfl
      have hlb := n1.lt
      have hszb := hg.size
      have n1k := hide n1
      obtain ⟨y1, z1⟩ := n1
      generalize fs[k] = f at *
      generalize (fs.take k).map swp = lq at *
      have hk1000 : k ≤ 1000 := by omega
      replace hls := hide hls
      replace n0 := hide n0
      go_wp2_with (at_builtin; obtain ⟨i0, hi, hz, h1, h2⟩ := info_parts info_face; refine wpList_pushAt (α := Fc) _ rfl (.tmp 21) (.tmp 29) _ rfl Wb.heap.size 67 i0 _ 24 Try.underlying27 hi hz h1 h2 rfl _ _ _ lq rfl ?c1 (by exact (hown.pure (by repeat (first | exact World.grownBy.refl _ _ | assumption | refine gr_alloc ?_ _ | refine gr_drewN ?_ _ | refine gr_drew ?_)))) 0 ⟨_, 0, none⟩ 1 1 [⟨f.a, f.c, f.b⟩] rfl rfl (by exact (sl_oneAt _ 0 _ _ _ _ (by first | rfl | simp) (Nat.zero_le _) rfl)) ?c2 ?c3 ?c4 ?_)
      case c1 => exact hll.symm
      case c2 => first | omega | (simp; omega)
      case c3 => first | (simp [maxLen]; omega) | (unfold maxLen; omega)
      case c4 => first | omega | (simp; omega)
      intro B5 d5 w9 hown5 hG5
      have hgm := gr_alloc (gr_alloc (World.grownBy.refl wr none) (.cells #[.int .i64 f.a, .int .i64 f.b, .int .i64 f.c] 67)) (.cells #[.int .i64 f.a, .int .i64 f.c, .int .i64 f.b] 67)
      have hl5 : (lq ++ [(⟨f.a, f.c, f.b⟩ : Fc)]).length = k + 1 := by rw [List.length_append, hll]; rfl
      obtain ⟨p1, g1⟩ := (n1k.out.gr hgm (by simp)).grew hG5 (hown.pure hgm) (by omega)
      have p0 := hide ((n0.out.gr hgm (by simp)).grew hG5 (hown.pure hgm) (by omega))
      have hg5 := hide (hG5.row (hown.pure hgm) (gr_step hg hgm) (Nat.le_refl _))
      have hgs := hide (gr_set (World.grownBy.refl w9 (some w1.heap.size)) (p := ⟨w1.heap.size, 1, none⟩) (.inl rfl) (.slice B5 (k + 1) d5))
      have hO5 := hide (hown5.ne hgs.out (fun g e1 e2 => by have := (hown5.blk_lt e1).1; injection e2; omega))
      have hcs := hide (Cell.set_ ⟨p1, g1⟩ (.slice B5 (k + 1) d5))
      clear hown hG5 hgm x0 x1 x2 y1 z1 hown5
      try rw [hl5]
      try rw [show lq.length + 1 = k + 1 by omega]
      go_wp2_with fail
      (go_roundw; (case rel => exact ⟨k + 1, B5, d5, by omega, by go_num, by rw [hls.out]; exact hO5.out.lower (by omega), p0.out.set_ne _ (by decide), hcs.out, gr_trans hg5.out hgs.out⟩); (case measure => simp [intOf]; omega))
    · have hkn : k = fs.length := by omega
      subst hkn
      rw [List.take_length] at hown
      have hAn := hA1.ne hg (fun g e1 e2 => by have := hAlt.out g e1; injection e2; omega)
      have hgw : w.grownBy wr none := gr_row hg4 hg (fun g e => by injection e; omega)
      replace q0 := hide (q0.out.gr hg (fun e => by injection e; have := hWs.out; omega))
      replace q1 := hide (q1.out.gr hg (fun e => by injection e; have := hWs.out; omega))
      have ba2 := gr_cell hg ba (by simp; omega)
      have hlf : (fs.map swp).length = fs.length := List.length_map _
      have hR := madeMir_any (mirV axis) (w.heap.size + 1) A1 c1 vs B2 d2 (fs.map swp) wr (hAn.sl.mono (Nat.zero_le _)) (hown.sl.mono (Nat.zero_le _)) hvl (by omega)
        (fun v hv wx hx => mirRef_any _ axis v wx (hbd.out v hv) (hx.k ba2))
      rw [hlf] at hR
      replace hR := hide hR
      obtain ⟨n0, -⟩ := n0
      obtain ⟨n1, -⟩ := n1
      have hszr := hg.size
      clear hown hAn hg ba ba2 hbd hlf
      go_wp2_with fail
      refine hR.out.mono ?_
      rintro e w9 ⟨A9, c9, B9, d9, rfl, s1, s2, hg9⟩
      obtain ⟨x0, y0⟩ := q0.out.gr hg9 (by simp)
      obtain ⟨x1, y1⟩ := q1.out.gr hg9 (by simp)
      have hg2 := gr_trans hgw hg9
      have hWl := hWs.out
      clear hR
      go_wp2_with fail
      have hk := fun (v1 v2 : Value) => gr_set (gr_set hg2 (p := ⟨w.heap.size + 1 + 1, 0, none⟩) (.inr (by simp only; omega)) v1) (p := ⟨w.heap.size + 1 + 1, 1, none⟩) (.inr (by simp only; omega)) v2
      have hgs := fun (v1 v2 : Value) => gr_set (gr_set (World.grownBy.refl w9 (some (w.heap.size + 1 + 1))) (p := ⟨w.heap.size + 1 + 1, 0, none⟩) (.inl rfl) v1) (p := ⟨w.heap.size + 1 + 1, 1, none⟩) (.inl rfl) v2
      refine bodyPost_ret (v := .tuple #[.agg #[.slice A9 (okM ⟨vs.map (mirV axis), fs.map swp⟩).vs.length c9, .slice B9 (okM ⟨vs.map (mirV axis), fs.map swp⟩).fs.length d9], .int .i64 (meshF ⟨vs.map (mirV axis), fs.map swp⟩)]) (by simp [results, Try.results25, go_sem, x0, x1, y0, y1]) rfl ⟨A9, c9, B9, d9, rfl, (s1.gr (hgs _ _) (fun g e => by injection e; omega)).mono (by omega), (s2.gr (hgs _ _) (fun g e => by injection e; omega)).mono (by omega), hk _ _⟩

end Go.Proofs.Ytjodjdjfagjiaaa

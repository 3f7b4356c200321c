/- Contracts of functions that this seat's laws reach, each: what one call returns and what it leaves in memory; no condition beyond each theorem's own hypotheses. -/
import Derived.Test.YtbpkkgeedkegcaaGreatDoorZqReady
import Derived.Test.YtbpkkgeedkegcaaGreatDoorZqClosM
import Derived.Test.YtbpkkgeedkegcaaGreatDoorZqVolA
import Derived.Test.YtbpkkgeedkegcaaGreatDoorZqShellB
import Derived.Test.YtbpkkgeedkegcaaGreatDoorZqPartLaw
import Derived.Test.YtbpkkgeedkegcaaGreatDoorZqTree
set_option linter.unusedVariables false
set_option linter.unusedSimpArgs false
namespace Go.Proofs.YtbpkkgeedkegcaaGreatDoor
open Go Go.RowKit Go.Bl

theorem one_sum : ∀ g : List Nat, (g.map fun _ => (1 : Int)).sum = g.length
  | [] => rfl
  | x :: g => by rw [List.map_cons, List.sum_cons, one_sum g, List.length_cons]; omega

theorem shells_lens (fs : List Fc) : ((shellsF fs).map fun g => (g.length : Int)).sum = fs.length := by
  have h := shells_sum fs fun _ => (1 : Int)
  have e : (fun g : List Nat => (g.map fun _ => (1 : Int)).sum) = fun g => (g.length : Int) := by funext g; exact one_sum g
  rw [e, one_sum, List.length_range] at h
  exact h

def lensTo (G : List (List Nat)) (k : Nat) : Int := ((G.take k).map fun g => (g.length : Int)).sum

theorem lens_bd : ∀ (G : List (List Nat)) (k : Nat), 0 ≤ lensTo G k ∧ lensTo G k ≤ (G.map fun g => (g.length : Int)).sum
  | [], k => by simp [lensTo]
  | g :: G, 0 => by
    have h1 := lens_bd G 0
    simp only [lensTo, List.take_zero, List.map_nil, List.sum_nil, List.map_cons, List.sum_cons] at h1 ⊢
    omega
  | g :: G, k + 1 => by
    have h1 := lens_bd G k
    simp only [lensTo, List.map_cons, List.take_succ_cons, List.sum_cons] at h1 ⊢
    omega

theorem lens_snoc {G : List (List Nat)} {k : Nat} (h : k < G.length) : lensTo G (k + 1) = lensTo G k + (G[k].length : Int) := by
  unfold lensTo
  rw [take_snoc h, List.map_append, List.sum_append]; simp

theorem gi_sorted {g : List Nat} (h : g.Pairwise (· < ·)) : (gi g).Pairwise (· ≤ ·) := by
  unfold gi
  rw [List.pairwise_map]
  exact h.imp fun h => by omega

set_option maxHeartbeats 4000000 in
set_option maxRecDepth 100000 in
theorem shellsAreParts_law (A : Option Addr) (n c : Nat) (L : List Int) (w : World) (hL : Sl w 0 A L) (hn : L.length = n) :
    Calls Tryz.prog 3 #[.slice A n c] w fun e w' => e = .returned (.bool true) ∧ w.grownBy w' none := by
  have hs0 := strm_new (c := c) 25 hL hn
  have hg0 := gr_alloc (World.grownBy.refl w none) (.cells #[.slice A n c, .int .i64 0] 25)
  go_enter Tryz.func3, Tryz.ntmps3
  go_wp2_with fail
  refine (closedMesh_any _ 0 _ hs0 (by omega)).mono ?_
  rintro e w1 ⟨A1, c1, vs, B1, d1, fs, rfl, hl, hf, ho1, hM, hvl, hfl, hcl⟩
  replace hg0 := gr_new hg0 ho1.1 (Nat.le_refl _)
  replace hl := hl.mono (Nat.zero_le _)
  replace hf := hf.mono (Nat.zero_le _)
  clear ho1 hs0
  have hop := closed_open.1 hcl
  have hSh := fun A c B d W h1 h2 => meshShells_any A c vs B d fs W h1 h2 hM
  have hVo := fun A c B d W h1 h2 => volumes_any A c vs B d fs W h1 h2 hM
  have hPa := fun F e0 L A c B d W h1 h2 h3 h4 => partGo_any A c vs B d fs F e0 L W h1 h2 h3 h4
  rw [show closE fs = 0 by unfold closE; rw [if_pos hop], show volsF vs fs = (shellsF fs).map (grpVol vs fs) by unfold volsF; rw [if_pos hop]; rfl] at hVo
  rw [shellsI_eq] at hSh
  have hps := fun g (hg : g ∈ shellsF fs) => part_shell hM hcl hg
  have hln := lens_bd (shellsF fs)
  have hall : lensTo (shellsF fs) (shellsF fs).length = fs.length := by unfold lensTo; rw [List.take_length]; exact shells_lens fs
  rw [shells_lens] at hln
  have hSL := shellsF_len fs
  have hmem : Hid (∀ g ∈ shellsF fs, g.length ≤ fs.length) := fun g hg => (shell_mem hg).1
  replace hps := hide hps
  replace hln := hide hln
  replace hall := hide hall
  replace hSh := hide hSh
  replace hVo := hide hVo
  replace hPa := hide hPa
  clear hop hM hcl
  generalize shellsF fs = SH at *
  obtain ⟨W, hW⟩ : ∃ W, W = w1.alloc (.cells #[.slice A1 vs.length c1, .slice B1 fs.length d1] 29) := ⟨_, rfl⟩
  have hgW : w1.grownBy W none := by rw [hW]; exact (by repeat (first | exact World.grownBy.refl _ _ | assumption | refine gr_alloc ?_ _ | (apply gr_tail; assumption) | refine gr_drewN ?_ _ | refine gr_drew ?_))
  have hB : ∀ wx, W.grownBy wx none → wx.cell? ⟨w1.heap.size, 0, none⟩ = some (.slice A1 vs.length c1) ∧ wx.cell? ⟨w1.heap.size, 1, none⟩ = some (.slice B1 fs.length d1) ∧ Sl wx 0 A1 vs ∧ Sl wx 0 B1 fs := fun wx h => ⟨h.k (by rw [hW]; go_simp), h.k (by rw [hW]; go_simp), (hl.pure hgW).pure h, (hf.pure hgW).pure h⟩
  replace hB := hide hB
  replace hg0 := gr_trans hg0 hgW
  clear hl hf hgW
  go_upto_region 3 with fail
  rw [← hW]
  clear hW
  generalize w1.heap.size = x4 at *
  clear w1
  obtain ⟨e0, e1, e2, e3⟩ := hB.out W (World.grownBy.refl _ _)
  go_wp2_with fail
  refine (hSh.out _ _ _ _ _ e2 e3).mono ?_
  rintro e w2 ⟨O, co, rfl, hO, g2⟩
  have hOs := hO.toN.sl
  clear e0 e1 e2 e3 hO hSh
  obtain ⟨e0, e1, e2, e3⟩ := hB.out w2 g2
  have hl1 : Hid ((SH.map gi).length = SH.length) := List.length_map _
  rw [hl1.out]
  go_wp2_with fail
  refine (hVo.out _ _ _ _ _ e2 e3).mono ?_
  rintro e w3 ⟨V, cv, rfl, hV, g3⟩
  have hVs := hV.sl
  have hOs := hOs.pure g3
  have hl2 : Hid ((SH.map (grpVol vs fs)).length = SH.length) := List.length_map _
  rw [hl2.out]
  replace g3 := gr_trans g2 g3
  clear e0 e1 e2 e3 hV hVo g2
  go_wp2_with fail
  have hg3 := gr_trans hg0 g3
  have g4 := World.grownBy.refl w3 none
  go_loopw [9, 47] (fun o i wr => ∃ k : Nat, k ≤ SH.length ∧ i = .int .i64 k ∧ o = .int .i64 (lensTo SH k) ∧ w3.grownBy wr none) (fun _ i _ => SH.length - (intOf i).toNat)
  case atStart => exact ⟨0, Nat.zero_le _, rfl, rfl, g4⟩
  case round =>
    obtain ⟨k, hk, rfl, rfl, g5⟩ := hrel
    clear g4
    have g6 := gr_trans g3 g5
    by_cases hlt : k < SH.length
    · obtain ⟨⟨mv, mf⟩, m1, m2, m3, m4, m5, m6, m7, m8, m9⟩ := hps.out _ (List.getElem_mem hlt)
      have hgl := hmem.out _ (List.getElem_mem hlt)
      have hsn := hide (lens_snoc hlt)
      have hb1 := hln.out k
      have hb2 := hln.out (k + 1)
      rw [hsn.out] at hb2
      obtain ⟨gO, oO, c1, rfl, hb0, hb3, ⟨AG, cG, rfl, hcap, hG⟩, hc⟩ := (hOs.pure g5).at_ (by decide) (k := k) (by rw [hl1.out]; exact hlt)
      have v0 := hc 0 _ rfl
      rw [show Enc.sz (List Int) = 1 from rfl, Nat.mul_one, Nat.add_zero] at v0
      have hgk : (SH.map gi)[k]'(by rw [hl1.out]; exact hlt) = gi SH[k] := List.getElem_map _
      rw [hgk] at v0 hG hcap
      clear hc hgk hcap hb0 hb3
      obtain ⟨gV, oV, c2, rfl, hb0, hb3, hcr, hc⟩ := (hVs.pure g5).at_ (by decide) (k := k) (by rw [hl2.out]; exact hlt)
      have hcr : c2 = [.int .i64 ((SH.map (grpVol vs fs))[k]'(by rw [hl2.out]; exact hlt))] := hcr
      subst hcr
      have u0 := hc 0 _ rfl
      rw [show Enc.sz Int = 1 from rfl, Nat.mul_one, Nat.add_zero, List.getElem_map] at u0
      clear hc hb0 hb3
      have hgg : Hid ((gi SH[k]).length = SH[k].length) := gi_len _
      replace hG := hG.mono (Nat.zero_le _)
      have hso := hide (gi_sorted m8)
      simp only at m3 m4 m5 m6 m7
      have hv6 : volS mv mf = grpVol vs fs SH[k] := m6
      have hPt := fun A c B d W h1 h2 h3 => hPa.out AG cG (gi (SH[k]'hlt)) A c B d W h1 h2 h3 (by rw [hgg.out]; omega)
      unfold SMeshE at hPt
      rw [m1, m2, hgg.out] at hPt
      have hVp := fun A c B d W h1 h2 => meshVolume_any A c mv B d mf W h1 h2 m3
      rw [show volR mv mf = grpVol vs fs SH[k] by unfold volR; rw [if_pos m4, hv6], show closE mf = 0 by unfold closE; rw [if_pos m4]] at hVp
      have hSp := fun A c B d W h1 h2 => meshShells_any A c mv B d mf W h1 h2 m3
      rw [show (shellsI mf mf.length).length = 1 by rw [shellsI_eq, List.length_map]; exact m7] at hSp
      have hIs := fun W h => isSorted_any AG cG (gi (SH[k]'hlt)) W h hso.out
      rw [hgg.out] at hIs v0
      simp only at hPt
      rw [m5] at hPt hVp hSp
      have hmn := hide m5
      replace hPt := hide hPt
      replace hVp := hide hVp
      replace hSp := hide hSp
      replace hIs := hide hIs
      clear m1 m2 m3 m4 m5 m6 m7 m8 m9 hv6 hso
      generalize grpVol vs fs SH[k] = X at *
      generalize lensTo SH k = Y at *
      generalize SH[k] = G at *
      have hbb : -9223372036854775808 ≤ Y + (G.length : Int) ∧ Y + (G.length : Int) ≤ 9223372036854775807 := by omega
      clear hb1 hb2
      obtain ⟨e0, e1, e2, e3⟩ := hB.out wr g6
      go_wp2_with fail
      refine (hPt.out _ _ _ _ _ e2 e3 hG).mono ?_
      rintro e w7 ⟨A7, c7, B7, d7, rfl, xa, xb, g7⟩
      replace xa := xa.mono (Nat.zero_le _)
      replace xb := xb.mono (Nat.zero_le _)
      simp only at xa xb ⊢
      have hG7 := hG.pure g7
      have u7 := g7.k u0
      have g8 := gr_trans g5 g7
      clear e0 e1 e2 e3 hPt hG u0 v0 g5 g6 g7
      have hal := gr_alloc (World.grownBy.refl w7 none) (.cells #[.slice A7 mv.length c7, .slice B7 G.length d7] 29)
      have y0 : (w7.alloc (.cells #[.slice A7 mv.length c7, .slice B7 G.length d7] 29)).cell? ⟨w7.heap.size, 0, none⟩ = some (.slice A7 mv.length c7) := by go_simp
      have y1 : (w7.alloc (.cells #[.slice A7 mv.length c7, .slice B7 G.length d7] 29)).cell? ⟨w7.heap.size, 1, none⟩ = some (.slice B7 G.length d7) := by go_simp
      replace xa := xa.pure hal
      replace xb := xb.pure hal
      replace hG7 := hG7.pure hal
      replace u7 := hal.k u7
      replace g8 := gr_trans g8 hal
      go_upto_region 12 with fail
      generalize w7.heap.size = x12 at *
      generalize w7.alloc (.cells #[.slice A7 mv.length c7, .slice B7 G.length d7] 29) = w8 at *
      clear hal
      go_wp2_with fail
      refine (hIs.out _ hG7).mono ?_
      rintro e w9 ⟨rfl, g9⟩
      replace y0 := g9.k y0
      replace y1 := g9.k y1
      replace xa := xa.pure g9
      replace xb := xb.pure g9
      replace u7 := g9.k u7
      replace g8 := gr_trans g8 g9
      clear hIs hG7 g9
      go_wp2_with fail
      refine (hVp.out _ _ _ _ _ xa xb).mono ?_
      rintro e w10 ⟨rfl, g10⟩
      replace y0 := g10.k y0
      replace y1 := g10.k y1
      replace xa := xa.pure g10
      replace xb := xb.pure g10
      replace u7 := g10.k u7
      replace g8 := gr_trans g8 g10
      clear hVp g10
      go_wp2_with fail
      refine (hSp.out _ _ _ _ _ xa xb).mono ?_
      rintro e w11 ⟨O2, co2, rfl, -, g11⟩
      replace u7 := g11.k u7
      replace g8 := gr_trans g8 g11
      clear hSp g11 y0 y1 xa xb
      go_wp2_with fail
      (go_roundw; (case rel => exact ⟨k + 1, by omega, by go_num, by rw [hsn.out], g8⟩); (case measure => simp [intOf]; omega))
    · have hke : k = SH.length := by omega
      subst hke
      rw [hall.out]
      obtain ⟨e0, e1, e2, e3⟩ := hB.out wr g6
      go_wp2_with fail
      refine (ready_any _).mono ?_
      rintro e w9 ⟨rfl, h1⟩
      go_wp2_with fail
      go_ret
      exact ⟨rfl, gr_trans hg0 (gr_trans g6 h1)⟩

end Go.Proofs.YtbpkkgeedkegcaaGreatDoor

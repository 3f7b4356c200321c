/- Contracts of functions that this seat's laws reach, each: what one call returns and what it leaves in memory; no condition beyond each theorem's own hypotheses. -/
import Derived.Test.YtejmbaiioblfeaaGreatDoorZqHulX
import Derived.Test.YtejmbaiioblfeaaGreatDoorZqFarmData
set_option linter.unusedVariables false
set_option linter.unusedSimpArgs false
namespace Go.Bl
open Go

theorem apartI_comm (a b c d : Int) : apartI a b c d = apartI c d a b := by unfold apartI; rw [Bool.or_comm]

theorem meetM_comm (a b c d : Pt) : meetM a b c d = meetM c d a b := by
  unfold meetM
  rw [apartI_comm a.x, apartI_comm a.y, Bool.and_comm (acrossB _ _)]

def tstS (x y : Sid) : Bool := (x.ring != y.ring) && meetM x.a x.b y.a y.b

theorem tstS_comm (x y : Sid) : tstS x y = tstS y x := by
  unfold tstS
  rw [meetM_comm, bne_comm]

def pairsM (L : List Sid) : Bool := L.any fun x => L.any fun y => tstS x y

theorem pairsM_iff {L : List Sid} : pairsM L = true ↔ ∃ x ∈ L, ∃ y ∈ L, tstS x y = true := by
  unfold pairsM
  simp [List.any_eq_true]

theorem pairsM_perm {L L' : List Sid} (h : L'.Perm L) : pairsM L' = pairsM L := by
  rw [Bool.eq_iff_iff, pairsM_iff, pairsM_iff]
  constructor
  · rintro ⟨x, hx, y, hy, h1⟩; exact ⟨x, h.mem_iff.1 hx, y, h.mem_iff.1 hy, h1⟩
  · rintro ⟨x, hx, y, hy, h1⟩; exact ⟨x, h.mem_iff.2 hx, y, h.mem_iff.2 hy, h1⟩

theorem pairsM_no {L : List Sid} (h : ∀ i j (hi : i < L.length) (hj : j < L.length), i < j → tstS L[i] L[j] = false) : pairsM L = false := by
  rcases hp : pairsM L with _ | _
  · rfl
  · obtain ⟨x, hx, y, hy, h1⟩ := pairsM_iff.1 hp
    obtain ⟨i, hi, rfl⟩ := List.getElem_of_mem hx
    obtain ⟨j, hj, rfl⟩ := List.getElem_of_mem hy
    rcases Nat.lt_trichotomy i j with h2 | h2 | h2
    · rw [h i j hi hj h2] at h1; cases h1
    · subst h2; simp [tstS] at h1
    · rw [tstS_comm, h j i hj hi h2] at h1; cases h1
/-- what is wrong with a region -/
def regF (rs : List (List Pt)) : Int :=
  if 100 < rs.length ∨ 2000 < (flatK rs rs.length).length then 2
  else if scanN (fun k => ringF (rs.getD k [])) rs.length ≠ 0 then scanN (fun k => ringF (rs.getD k [])) rs.length
  else if pairsM (sidesK rs rs.length) then 13 else 0

theorem cor_mem {r : List Pt} (h : 0 < r.length) (i : Nat) : cor r i ∈ r := by
  obtain ⟨h1, e⟩ := cor_at (r := r) (i := i) h
  rw [e]; exact List.getElem_mem _

theorem sidesK_bd {rs : List (List Pt)} (h : ∀ r ∈ rs, ∀ p ∈ r, bdP p) : ∀ s ∈ sidesK rs rs.length, bdP s.a ∧ bdP s.b := by
  intro s hs
  unfold sidesK at hs
  obtain ⟨l, hl, hs⟩ := List.mem_flatten.1 hs
  obtain ⟨i, hi, rfl⟩ := List.mem_map.1 hl
  have hi := List.mem_range.1 hi
  have e : rs.getD i [] = rs[i] := by simp [List.getD, hi]
  rw [e] at hs
  unfold ringS at hs
  obtain ⟨k, hk, rfl⟩ := List.mem_map.1 hs
  have hk := List.mem_range.1 hk
  have hb := h _ (List.getElem_mem hi)
  exact ⟨hb _ (cor_mem (by omega) _), hb _ (cor_mem (by omega) _)⟩

theorem scanN_zero' {f : Nat → Int} : ∀ {n : Nat}, scanN f n = 0 → ∀ k, k < n → f k = 0
  | 0, _, k, hk => by omega
  | n + 1, h, k, hk => by
    by_cases e : scanN f n = 0
    · have hn : f n = 0 := by simpa [scanN, e] using h
      by_cases he : k = n
      · rw [he]; exact hn
      · exact scanN_zero' e k (by omega)
    · simp [scanN, e] at h

theorem ringF_ok {r : List Pt} (h : ringF r = 0) : 3 ≤ r.length ∧ r.length ≤ 500 ∧ (∀ p ∈ r, bdP p) ∧ twiceB r = false ∧ sidesF r = 0 := by
  unfold ringF at h
  by_cases h3 : r.length < 3
  · rw [if_pos h3] at h; cases h
  · rw [if_neg h3] at h
    by_cases h5 : 500 < r.length
    · rw [if_pos h5] at h; cases h
    · rw [if_neg h5] at h
      rcases hf : r.any farP with _ | _
      · rw [hf] at h
        rcases ht : twiceB r with _ | _
        · rw [ht] at h
          exact ⟨by omega, by omega, fun p hp => far_bd (by simpa using List.any_eq_false.1 hf p hp), rfl, h⟩
        · rw [ht] at h; cases h
      · rw [hf] at h; cases h

end Go.Bl
namespace Go.Proofs.YtejmbaiioblfeaaGreatDoor
open Go Go.RowKit Go.Bl

theorem break_no {x y : Sid} (h : min y.a.x y.b.x > max x.a.x x.b.x) : tstS x y = false := by
  unfold tstS meetM apartI
  rw [decide_eq_true (show max x.a.x x.b.x < min y.a.x y.b.x from h)]
  simp

set_option maxHeartbeats 8000000 in
set_option maxRecDepth 100000 in
theorem checkRegion_any (A : Option Addr) (c : Nat) (rs : List (List Pt)) (w : World) (hl : Sl w 0 A rs) (hs : (flatK rs rs.length).length ≤ 1000000) :
    Calls Tryz.prog 31 #[.slice A rs.length c] w fun e w' => e = .returned (.int .i64 (regF rs)) ∧ w.grownBy w' none := by
  have hm := hl.1
  unfold maxLen at hm
  have hbd := hide fun k => Nat.le_trans (flatK_le rs k) hs
  have hV : Hid (regF rs = if 100 < rs.length ∨ 2000 < (flatK rs rs.length).length then 2 else if scanN (fun k => ringF (rs.getD k [])) rs.length ≠ 0 then scanN (fun k => ringF (rs.getD k [])) rs.length else if pairsM (sidesK rs rs.length) then 13 else 0) := rfl
  go_enter Tryz.func31, Tryz.ntmps31
  go_wp2_with fail
  go_loopw [3, 16] (fun s i wr => ∃ k : Nat, k ≤ rs.length ∧ i = .int .i64 k ∧ s = .int .i64 ((flatK rs k).length : Nat) ∧ w.grownBy wr none) (fun _ i _ => rs.length - (intOf i).toNat)
  case atStart => exact ⟨0, Nat.zero_le _, rfl, rfl, World.grownBy.refl _ _⟩
  case round =>
    obtain ⟨k, hk, rfl, rfl, hg⟩ := hrel
    have hfk := hbd.out k
    by_cases hlt : k < rs.length
    · obtain ⟨g, o, B, d, rfl, hb1, c0, -, hsl⟩ := sl_inner' hl hlt
      replace c0 := hg.k c0
      have hfs := congrArg List.length (flatK_snoc hlt)
      rw [List.length_append] at hfs
      have hfk1 := hbd.out (k + 1)
      rw [hfs] at hfk1
      replace hfs := hide hfs
      go_wp2_with fail
      (go_roundw; (case rel => exact ⟨k + 1, by omega, by go_num, by rw [hfs.out]; go_num, hg⟩); (case measure => simp [intOf]; omega))
    · have hke : k = rs.length := by omega
      subst hke
      clear hlt hk
      by_cases h100 : 100 < rs.length
      · have hF := hide (hV.out.trans (if_pos (.inl h100)))
        clear hV
        go_wp2_with fail
        go_ret
        exact ⟨ret_int hF.out.symm, hg⟩
      · by_cases h2k : 2000 < (flatK rs rs.length).length
        · have hF := hide (hV.out.trans (if_pos (.inr h2k)))
          clear hV
          go_wp2_with fail
          go_ret
          exact ⟨ret_int hF.out.symm, hg⟩
        · replace hV := hide (hV.out.trans (if_neg (by omega)))
          obtain ⟨f, hf⟩ : ∃ f : Nat → Int, f = fun k => ringF (rs.getD k []) := ⟨_, rfl⟩
          rw [← hf] at hV
          have hfk : Hid (∀ k (h : k < rs.length), f k = ringF rs[k]) := fun k h => by rw [hf]; simp [List.getD, h]
          replace hf := hide hf
          go_wp2_with fail
          rename World => w0
          go_loopw [34] (fun i wr => ∃ k : Nat, k ≤ rs.length ∧ i = .int .i64 k ∧ w.grownBy wr none ∧ Hid (scanN f k = 0)) (fun i _ => rs.length - (intOf i).toNat)
          case atStart => exact ⟨0, Nat.zero_le _, rfl, hg, rfl⟩
          case round =>
            clear hg
            obtain ⟨k, hk, rfl, hg, hsc⟩ := hrel
            by_cases hlt : k < rs.length
            · obtain ⟨g, o, B, d, rfl, hb1, c0, -, hsl⟩ := sl_inner' hl hlt
              replace c0 := hg.k c0
              have hR := hide (checkRing_any B d rs[k] wr (hsl.pure hg))
              have hfe := hide (hfk.out k hlt)
              rw [← hfe.out] at hR
              by_cases hz : f k = 0
              · have hsc2 := hide (scanN_ok hsc.out hz)
                rw [hz] at hR
                clear hz hfe
                go_wp2_with fail
                refine hR.out.mono ?_
                rintro e w5 ⟨rfl, hg5⟩
                go_wp2_with fail
                (go_roundw; (case rel => exact ⟨k + 1, by omega, by go_num, gr_trans hg hg5, hsc2⟩); (case measure => simp [intOf]; omega))
              · have hat := scanN_at hsc.out hz hlt
                have hF : Hid (regF rs = f k) := by rw [Hid, hV.out, if_pos (by rw [hat]; exact hz), hat]
                have hb : (f k != 0) = true := by simp [hz]
                clear hz hfe hat hV
                generalize f k = fk at *
                go_wp2_with fail
                refine hR.out.mono ?_
                rintro e w5 ⟨rfl, hg5⟩
                go_wp2_with fail
                go_ret
                exact ⟨ret_int hF.out.symm, gr_trans hg hg5⟩
            · have hke : k = rs.length := by omega
              subst hke
              replace hV := hide (hV.out.trans (if_neg (by rw [hsc.out]; simp)))
              have hall : Hid (∀ r ∈ rs, 0 < r.length) := fun r hr => by
                obtain ⟨i, hi, rfl⟩ := List.getElem_of_mem hr
                have := ringF_ok ((hfk.out i hi).symm.trans (scanN_zero' hsc.out i hi))
                omega
              have hallB : Hid (∀ r ∈ rs, ∀ p ∈ r, bdP p) := fun r hr => by
                obtain ⟨i, hi, rfl⟩ := List.getElem_of_mem hr
                exact (ringF_ok ((hfk.out i hi).symm.trans (scanN_zero' hsc.out i hi))).2.2.1
              clear hsc hf hfk hlt hk
              go_wp2_with fail
              refine (sidesG_any A c rs _ (hl.pure hg) hall.out (by omega)).mono ?_
              rintro e w5 ⟨A5, c5, rfl, ho5, hg5⟩
              have hlen := sidesK_len (rs := rs) (Nat.le_refl _)
              have hsb := hide (sidesK_bd hallB.out)
              have hgw := gr_trans hg hg5
              replace ho5 := ho5.lower hg.size
              generalize sidesK rs rs.length = L at *
              have hL2 : L.length ≤ 2000 := by omega
              replace hlen := hide hlen
              clear hg hg5 hbd hall hallB
              go_wp2_with fail
              refine (sortS_any A5 c5 _ L w5 ho5 (by omega)).mono ?_
              rintro e w6 ⟨rfl, L', hperm, hsort, ho6, hg6⟩
              have hg6w : w.grownBy w6 none := gr_row hgw hg6 (fun x e => (ho5.blk_lt e).1)
              have hsl6 := ho6.sl
              have hcap := ho6.cap
              have hLL := hperm.length_eq
              rw [← pairsM_perm hperm] at hV
              have hsb' : Hid (∀ s ∈ L', bdP s.a ∧ bdP s.b) := fun s hs => hsb.out s (hperm.mem_iff.1 hs)
              replace hsort := hide hsort
              rw [← hLL] at hL2 ⊢
              clear hlen hsb hperm ho5 ho6 hg6 hgw hLL
              have hNo : Hid ((∀ i, i < L'.length → ∀ j (hi : i < L'.length) (hj : j < L'.length), i < j → tstS L'[i] L'[j] = false) → regF rs = 0) := fun h => by
                rw [hV.out, pairsM_no (fun i j hi hj hij => h i hi j hi hj hij)]; rfl
              have hYes : Hid (∀ i j (hi : i < L'.length) (hj : j < L'.length), tstS L'[i] L'[j] = true → regF rs = 13) := fun i j hi hj h => by
                rw [hV.out, pairsM_iff.2 ⟨_, List.getElem_mem hi, _, List.getElem_mem hj, h⟩]; rfl
              clear hV
              go_wp2_with fail
              go_loopw [50] (fun i wr => ∃ k : Nat, k ≤ L'.length ∧ i = .int .i64 k ∧ w6.grownBy wr none ∧ Hid (∀ i, i < k → ∀ j (hi : i < L'.length) (hj : j < L'.length), i < j → tstS L'[i] L'[j] = false)) (fun i _ => L'.length - (intOf i).toNat)
              case atStart => exact ⟨0, Nat.zero_le _, rfl, World.grownBy.refl _ _, fun i hi => by omega⟩
              case round =>
                obtain ⟨k, hk, rfl, hg, hdone⟩ := hrel
                by_cases hlt : k < L'.length
                · obtain ⟨g5, o5, cx, rfl, hlo, hbb, rfl, hc⟩ := (hsl6.pure hg).at_ (by decide) hlt
                  have x0 : _ := hc 0 _ rfl
                  have x1 : _ := hc 1 _ rfl
                  have x2 : _ := hc 2 _ rfl
                  have x3 : _ := hc 3 _ rfl
                  have x4 : _ := hc 4 _ rfl
                  rw [show Enc.sz Sid = 5 from rfl, Nat.add_zero] at x0
                  rw [show Enc.sz Sid = 5 from rfl] at x1 x2 x3 x4
                  clear hc
                  obtain ⟨hba, hbbp⟩ := hsb'.out _ (List.getElem_mem hlt)
                  obtain ⟨X, hX⟩ : ∃ x, x = L'[k] := ⟨_, rfl⟩
                  rw [← hX] at x0 x1 x2 x3 x4 hba hbbp
                  replace hba := hide hba
                  replace hbbp := hide hbbp
                  replace hX := hide hX
                  go_upto_region 21 with fail
                  obtain ⟨w9, hw9⟩ : ∃ x, x = (wr).alloc (.cells [.int .i64 X.ring, .int .i64 X.a.x, .int .i64 X.a.y, .int .i64 X.b.x, .int .i64 X.b.y].toArray 86) := ⟨_, rfl⟩
                  have hg9 : (wr).grownBy w9 none := by rw [hw9]; exact gr_alloc (World.grownBy.refl _ _) _
                  have hb9 : Box w9 (wr).heap.size 86 [.int .i64 X.ring, .int .i64 X.a.x, .int .i64 X.a.y, .int .i64 X.b.x, .int .i64 X.b.y] := by rw [hw9]; exact Box.new _ _ _
                  have hxs9 := hb9.lt
                  rw [← hw9]
                  clear hw9
                  obtain ⟨x9, hx9⟩ : ∃ x, x = (wr).heap.size := ⟨_, rfl⟩
                  rw [← hx9] at hb9 hxs9 ⊢
                  have hxl9 : (wr).heap.size ≤ x9 := by omega
                  clear hx9
                  replace hg := gr_trans hg hg9
                  clear x0 x1 x2 x3 x4 hg9
                  by_cases hck : c5 = k + 1
                  · have hl1 : L'.length = k + 1 := by omega
                    have hdone2 : Hid (∀ i, i < k + 1 → ∀ j (hi : i < L'.length) (hj : j < L'.length), i < j → tstS L'[i] L'[j] = false) := fun i hi j hi' hj hij => hdone.out i (by omega) j hi' hj hij
                    replace hl1 := hide hl1
                    go_wp2_with fail
                    rw [show L'.length - (k + 1) = 0 by have := hl1.out; omega]
                    refine wp_loop_once ?_
                    go_wp2_with fail
                    (go_roundw; (case rel => exact ⟨k + 1, by omega, by go_num, hg, hdone2⟩); (case measure => simp [intOf]; omega))
                  · obtain ⟨n2, hn2⟩ : ∃ n : Nat, n + (k + 1) = L'.length := ⟨L'.length - (k + 1), by omega⟩
                    have hn3 : n2 ≤ 2000 := by omega
                    replace hn2 := hide hn2
                    go_wp2_with fail
                    rw [show L'.length - (k + 1) = n2 by have := hn2.out; omega]
                    rename World => wz
                    go_loopw [60] (fun i wr => ∃ m : Nat, m ≤ n2 ∧ i = .int .i64 m ∧ w6.grownBy wr none ∧ Box wr x9 86 [.int .i64 X.ring, .int .i64 X.a.x, .int .i64 X.a.y, .int .i64 X.b.x, .int .i64 X.b.y] ∧ Hid (∀ j (hj : j < L'.length), k < j → j < k + 1 + m → tstS X L'[j] = false)) (fun i _ => n2 - (intOf i).toNat)
                    case atStart => exact ⟨0, Nat.zero_le _, rfl, hg, hb9, fun j hj h1 h2 => by omega⟩
                    case round =>
                      clear hg hb9
                      obtain ⟨m, hm2, rfl, hg, hb9, hin⟩ := hrel
                      by_cases hml : m < n2
                      · have hjl : k + 1 + m < L'.length := by have := hn2.out; omega
                        obtain ⟨g6, o6, cx, e6, -, -, rfl, hc⟩ := (hsl6.pure hg).at_ (by decide) hjl
                        injection e6 with e6
                        injection e6 with e6 e7
                        subst e6
                        subst e7
                        obtain ⟨Y, hY⟩ : ∃ x, x = L'[k + 1 + m] := ⟨_, rfl⟩
                        have eo : o5 + (k + 1 + m) * Enc.sz Sid = o5 + (k + 1) * 5 + m * 5 := by show o5 + (k + 1 + m) * 5 = _; omega
                        rw [eo, ← hY] at hc
                        have y0 : _ := hc 0 _ rfl
                        have y1 : _ := hc 1 _ rfl
                        have y2 : _ := hc 2 _ rfl
                        have y3 : _ := hc 3 _ rfl
                        have y4 : _ := hc 4 _ rfl
                        rw [Nat.add_zero] at y0
                        obtain ⟨hca, hcb⟩ := hsb'.out _ (List.getElem_mem hjl)
                        rw [← hY] at hca hcb
                        have hM := hide fun w => meet_any X.a X.b Y.a Y.b w hba.out hbbp.out hca hcb
                        obtain ⟨x0, -⟩ := hb9.c 0 rfl
                        obtain ⟨x1, -⟩ := hb9.c 1 rfl
                        obtain ⟨x2, -⟩ := hb9.c 2 rfl
                        obtain ⟨x3, -⟩ := hb9.c 3 rfl
                        obtain ⟨x4, -⟩ := hb9.c 4 rfl
                        have hT : Hid (tstS X Y = ((X.ring != Y.ring) && meetM X.a X.b Y.a Y.b)) := rfl
                        have hYe : Hid (tstS X Y = true → regF rs = 13) := fun h => hYes.out k (k + 1 + m) hlt hjl (by rw [← hX.out, ← hY]; exact h)
                        have hBr : Hid (min Y.a.x Y.b.x > max X.a.x X.b.x → ∀ j (hj : j < L'.length), k < j → tstS X L'[j] = false) := fun h j hj h1 => by
                          by_cases h2 : j < k + 1 + m
                          · exact hin.out j hj h1 h2
                          · refine break_no ?_
                            have h3 : lowX Y ≤ lowX L'[j] := by
                              by_cases h4 : j = k + 1 + m
                              · subst h4; rw [hY]; exact Int.le_refl _
                              · rw [hY]; exact hsort.out _ _ hjl hj (by omega)
                            unfold lowX at h3
                            omega
                        replace hY := hide hY
                        clear hc hca hcb eo
                        go_upto_region 24 with fail
                        obtain ⟨w13, hw13⟩ : ∃ x, x = (wr).alloc (.cells [.int .i64 Y.ring, .int .i64 Y.a.x, .int .i64 Y.a.y, .int .i64 Y.b.x, .int .i64 Y.b.y].toArray 86) := ⟨_, rfl⟩
                        have hg13 : (wr).grownBy w13 none := by rw [hw13]; exact gr_alloc (World.grownBy.refl _ _) _
                        have hb13 : Box w13 (wr).heap.size 86 [.int .i64 Y.ring, .int .i64 Y.a.x, .int .i64 Y.a.y, .int .i64 Y.b.x, .int .i64 Y.b.y] := by rw [hw13]; exact Box.new _ _ _
                        have hxs13 := hb13.lt
                        rw [← hw13]
                        clear hw13
                        obtain ⟨x13, hx13⟩ : ∃ x, x = (wr).heap.size := ⟨_, rfl⟩
                        rw [← hx13] at hb13 hxs13 ⊢
                        have hxl13 : (wr).heap.size ≤ x13 := by omega
                        clear hx13
                        replace hg := gr_trans hg hg13
                        replace hb9 := hb9.pure hg13
                        replace x0 := hg13.k x0
                        replace x1 := hg13.k x1
                        replace x2 := hg13.k x2
                        replace x3 := hg13.k x3
                        replace x4 := hg13.k x4
                        obtain ⟨z0, -⟩ := hb13.c 0 rfl
                        obtain ⟨z1, -⟩ := hb13.c 1 rfl
                        obtain ⟨z2, -⟩ := hb13.c 2 rfl
                        obtain ⟨z3, -⟩ := hb13.c 3 rfl
                        obtain ⟨z4, -⟩ := hb13.c 4 rfl
                        clear hg13 y0 y1 y2 y3 y4
                        generalize hmn : min Y.a.x Y.b.x = mn at *
                        generalize hmx : max X.a.x X.b.x = mx at *
                        by_cases hbr : mn > mx
                        · have hdone2 : Hid (∀ i, i < k + 1 → ∀ j (hi : i < L'.length) (hj : j < L'.length), i < j → tstS L'[i] L'[j] = false) := fun i hi j hi' hj hij => by
                            by_cases e : i < k
                            · exact hdone.out i e j hi' hj hij
                            · have e2 : i = k := by omega
                              subst e2
                              rw [← hX.out]
                              exact hBr.out hbr j hj hij
                          have hd : decide (mn > mx) = true := by simp [hbr]
                          clear hBr hbr hT hYe hM
                          go_wp2_with fail
                          (go_roundw; (case rel => exact ⟨k + 1, by omega, by go_num, hg, hdone2⟩); (case measure => simp [intOf]; omega))
                        · have hd : decide (mn > mx) = false := by simp; omega
                          clear hBr hbr
                          rcases hr : (X.ring != Y.ring) with _ | _
                          · have hT2 : Hid (tstS X Y = false) := by rw [Hid, hT.out, hr, Bool.false_and]
                            clear hT hYe hM
                            go_wp2_with fail
                            (go_roundw; (case rel => exact ⟨m + 1, by omega, by go_num, hg, hb9, fun j hj h1 h2 => by
                                                          by_cases e : j < k + 1 + m
                                                          · exact hin.out j hj h1 e
                                                          · have e2 : j = k + 1 + m := by omega
                                                            subst e2
                                                            rw [← hY.out]; exact hT2.out⟩); (case measure => simp [intOf]; omega))
                          · have hT2 : Hid (tstS X Y = meetM X.a X.b Y.a Y.b) := by rw [Hid, hT.out, hr, Bool.true_and]
                            clear hT
                            generalize hmm : meetM X.a X.b Y.a Y.b = mm at *
                            replace hmm := hide hmm
                            go_wp2_with fail
                            refine (hM.out _).mono ?_
                            rintro e w14 ⟨rfl, hg14⟩
                            cases mm with
                            | true =>
                              have hF := hide (hYe.out hT2.out)
                              clear hYe hT2 hM
                              go_wp2_with fail
                              go_ret
                              exact ⟨ret_int hF.out.symm, gr_trans hg6w (gr_trans hg hg14)⟩
                            | false =>
                              clear hYe hM
                              go_wp2_with fail
                              (go_roundw; (case rel => exact ⟨m + 1, by omega, by go_num, gr_trans hg hg14, hb9.pure hg14, fun j hj h1 h2 => by
                                                              by_cases e : j < k + 1 + m
                                                              · exact hin.out j hj h1 e
                                                              · have e2 : j = k + 1 + m := by omega
                                                                subst e2
                                                                rw [← hY.out]; exact hT2.out⟩); (case measure => simp [intOf]; omega))
                      · have hdone2 : Hid (∀ i, i < k + 1 → ∀ j (hi : i < L'.length) (hj : j < L'.length), i < j → tstS L'[i] L'[j] = false) := fun i hi j hi' hj hij => by
                          by_cases e : i < k
                          · exact hdone.out i e j hi' hj hij
                          · have e2 : i = k := by omega
                            subst e2
                            rw [← hX.out]
                            exact hin.out j hj hij (by have := hn2.out; omega)
                        go_wp2_with fail
                        (go_roundw; (case rel => exact ⟨k + 1, by omega, by go_num, hg, hdone2⟩); (case measure => simp [intOf]; omega))
                · have hF := hide (hNo.out fun i hi j hi' hj hij => hdone.out i (by omega) j hi' hj hij)
                  go_wp2_with fail
                  go_ret
                  exact ⟨ret_int hF.out.symm, gr_trans hg6w hg⟩

end Go.Proofs.YtejmbaiioblfeaaGreatDoor

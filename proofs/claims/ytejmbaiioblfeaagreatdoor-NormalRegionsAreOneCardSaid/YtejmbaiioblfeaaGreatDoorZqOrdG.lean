/- Contracts of functions that this seat's laws reach, each: what one call returns and what it leaves in memory; no condition beyond each theorem's own hypotheses. -/
import Derived.Test.YtejmbaiioblfeaaGreatDoorZqStream
import Derived.Test.YtejmbaiioblfeaaGreatDoorZqTree
import Derived.Test.YtejmbaiioblfeaaGreatDoorZqKit3
set_option linter.unusedVariables false
set_option linter.unusedSimpArgs false
namespace Go.Proofs.YtejmbaiioblfeaaGreatDoor
open Go.RowKit Go.Bl

theorem info_int : (Tryz.prog.info? 3).map (fun i => (i.zero, i.size, i.bytes)) = some (some (.int .i64 0), 1, 8) := by kernel_rfl

set_option maxHeartbeats 400000 in
theorem outside_any (n a b : Int) (w : World) :
    Calls Tryz.prog 81 #[.int .i64 n, .int .i64 a, .int .i64 b] w fun e w' => e = .returned (.bool (outB n a b)) ∧ w = w' := by
  by_cases h1 : n < a
  · go_enter Tryz.func81, Tryz.ntmps81
    go_wp2
    go_ret
    exact ⟨by simp [outB, h1], rfl⟩
  · by_cases h2 : b < n
    · go_enter Tryz.func81, Tryz.ntmps81
      go_wp2
      go_ret
      exact ⟨by simp [outB, h1, h2], rfl⟩
    · go_enter Tryz.func81, Tryz.ntmps81
      go_wp2
      go_ret
      exact ⟨by simp [outB, h1, h2], rfl⟩

set_option maxHeartbeats 400000 in
theorem in_any (n a b : Int) (w : World) :
    Calls Tryz.prog 43 #[.int .i64 n, .int .i64 a, .int .i64 b] w fun e w' => e = .returned (.bool (inB n a b)) ∧ w = w' := by
  by_cases h1 : a ≤ n
  · by_cases h2 : n ≤ b
    · go_enter Tryz.func43, Tryz.ntmps43
      go_wp2
      go_ret
      exact ⟨ret_bool (inB_of h1 h2).symm, rfl⟩
    · have hb := hide (inB_hi (a := a) h2)
      go_enter Tryz.func43, Tryz.ntmps43
      go_wp2
      go_ret
      exact ⟨ret_bool hb.out.symm, rfl⟩
  · have hb := hide (inB_lo (b := b) h1)
    go_enter Tryz.func43, Tryz.ntmps43
    go_wp2
    go_ret
    exact ⟨ret_bool hb.out.symm, rfl⟩

set_option maxHeartbeats 1000000 in
theorem checkBeads_any (A : Option Addr) (c : Nat) (l : List Bead) (w : World) (hl : Sl w 0 A l) :
    Calls Tryz.prog 77 #[.slice A l.length c] w fun e w' => e = .returned (.int .i64 (checkBeads l)) ∧ w.grownBy w' none := by
  have hm := hl.1
  unfold maxLen at hm
  by_cases h0 : 5000 < l.length
  · go_enter Tryz.func77, Tryz.ntmps77
    go_wp2
    go_ret
    exact ⟨by simp [checkBeads, h0], World.grownBy.refl _ _⟩
  · go_enter Tryz.func77, Tryz.ntmps77
    go_wp2
    go_loopw [10] (fun i wr => ∃ k : Nat, k ≤ l.length ∧ i = .int .i64 k ∧ w.grownBy wr none ∧ Hid ((l.take k).all okBead = true)) (fun i _ => l.length - (intOf i).toNat)
    case atStart => exact ⟨0, Nat.zero_le _, rfl, World.grownBy.refl _ _, by simp [Hid]⟩
    case round =>
      obtain ⟨k, hk, rfl, hg, hall⟩ := hrel
      by_cases hlt : k < l.length
      · obtain ⟨g, o, cx, rfl, hb0, hb1, rfl, hc⟩ := (hl.pure hg).at_ (by decide) hlt
        have c0 : wr.cell? ⟨g, o + k * 3, none⟩ = some (.int .i64 l[k].long) := hc 0 _ rfl
        have c1 : wr.cell? ⟨g, o + k * 3 + 1, none⟩ = some (.int .i64 l[k].wide) := hc 1 _ rfl
        have c2 : wr.cell? ⟨g, o + k * 3 + 2, none⟩ = some (.int .i64 l[k].high) := hc 2 _ rfl
        clear hc
        have HS : Hid ((l.take (k+1)).all okBead = ((l.take k).all okBead && okBead l[k])) := by
          simp only [Hid]; rw [take_snoc hlt, List.all_append]; simp
        have HB : Hid (okBead l[k] = false → Ending.returned (.int .i64 1) = .returned (.int .i64 (checkBeads l))) := fun hf => by
          have : l.all okBead = false := by
            rw [List.all_eq_false]; exact ⟨l[k], List.getElem_mem _, by simp [hf]⟩
          simp [checkBeads, h0, this]
        rcases h1 : outB l[k].long 0 10000000 with _ | _
        · rcases h2 : outB l[k].wide 1 5000 with _ | _
          · rcases h3 : outB l[k].high 1 5000 with _ | _
            · have hok : Hid (okBead l[k] = true) := by simp [Hid, okBead, h1, h2, h3]
              go_wp2_with (go_at_call 81; refine (outside_any _ _ _ _).mono ?_; rintro e w' ⟨rfl, rfl⟩)
              go_roundw
              case rel => exact ⟨k + 1, by omega, by go_num, gr_alloc hg _, by simp only [Hid] at *; rw [HS, hall, hok]; rfl⟩
              case measure => simp [intOf]; omega
            · have hok : Hid (okBead l[k] = false) := by simp [Hid, okBead, h1, h2, h3]
              go_wp2_with (go_at_call 81; refine (outside_any _ _ _ _).mono ?_; rintro e w' ⟨rfl, rfl⟩)
              go_ret
              exact ⟨HB.out hok.out, gr_alloc hg _⟩
          · have hok : Hid (okBead l[k] = false) := by simp [Hid, okBead, h1, h2]
            go_wp2_with (go_at_call 81; refine (outside_any _ _ _ _).mono ?_; rintro e w' ⟨rfl, rfl⟩)
            go_ret
            exact ⟨HB.out hok.out, gr_alloc hg _⟩
        · have hok : Hid (okBead l[k] = false) := by simp [Hid, okBead, h1]
          go_wp2_with (go_at_call 81; refine (outside_any _ _ _ _).mono ?_; rintro e w' ⟨rfl, rfl⟩)
          go_ret
          exact ⟨HB.out hok.out, gr_alloc hg _⟩
      · have HB : Hid (Ending.returned (.int .i64 0) = .returned (.int .i64 (checkBeads l))) := by
          have : l.all okBead = true := by have := hall.out; rwa [List.take_of_length_le (by omega)] at this
          simp [Hid, checkBeads, h0, this]
        go_wp2
        go_ret
        exact ⟨HB.out, hg⟩

set_option maxHeartbeats 1000000 in
theorem volume_any (A : Option Addr) (c : Nat) (l : List Bead) (w : World) (hl : Sl w 0 A l) :
    Calls Tryz.prog 78 #[.slice A l.length c] w fun e w' => e = .returned (.int .i64 (volW l)) ∧ w.grownBy w' none := by
  have hm := hl.1
  unfold maxLen at hm
  go_enter Tryz.func78, Tryz.ntmps78
  go_wp2
  go_loopw [3, 8] (fun n i wr => ∃ k : Nat, k ≤ l.length ∧ i = .int .i64 k ∧ n = .int .i64 (volW (l.take k)) ∧ w.grownBy wr none) (fun _ i _ => l.length - (intOf i).toNat)
  case atStart => exact ⟨0, Nat.zero_le _, rfl, rfl, World.grownBy.refl _ _⟩
  case round =>
    obtain ⟨k, hk, rfl, rfl, hg⟩ := hrel
    by_cases hlt : k < l.length
    · obtain ⟨g, o, cx, rfl, hb0, hb1, rfl, hc⟩ := (hl.pure hg).at_ (by decide) hlt
      have c0 : wr.cell? ⟨g, o + k * 3, none⟩ = some (.int .i64 l[k].long) := hc 0 _ rfl
      have c1 : wr.cell? ⟨g, o + k * 3 + 1, none⟩ = some (.int .i64 l[k].wide) := hc 1 _ rfl
      have c2 : wr.cell? ⟨g, o + k * 3 + 2, none⟩ = some (.int .i64 l[k].high) := hc 2 _ rfl
      clear hc
      have HS : Hid (volW (l.take (k+1)) = wrap64 (volW (l.take k) + wrap64 (wrap64 (l[k].long * l[k].wide) * l[k].high))) := by simp only [Hid]; rw [take_snoc hlt, volW_snoc]; rfl
      go_wp2
      go_roundw
      case rel => exact ⟨k + 1, by omega, by go_num, by rw [HS.out], gr_alloc hg _⟩
      case measure => simp [intOf]; omega
    · have HB : Hid (volW (l.take k) = volW l) := by simp only [Hid]; rw [List.take_of_length_le (by omega)]
      go_wp2
      go_ret
      exact ⟨ret_int HB.out, hg⟩

end Go.Proofs.YtejmbaiioblfeaaGreatDoor

namespace Go.Proofs.YtejmbaiioblfeaaGreatDoor
open Go.RowKit Go.Bl

theorem info_pt : (Tryz.prog.info? 29).map (fun i => (i.zero, i.size, i.bytes)) = some (some (.agg #[.int .i64 0, .int .i64 0]), 2, 16) := by kernel_rfl

def SPt (b : Nat) (N : Int) (w : World) (e : Ending) (w' : World) : Prop := ∃ p : Pt, e = .returned (.agg #[.int .i64 p.x, .int .i64 p.y]) ∧ SOut b N w w'

set_option maxHeartbeats 800000 in
theorem aPoint_any (b : Nat) (N : Int) (w : World) (hs : Strm w b N) (hN : N ≤ 1000000000) :
    Calls Tryz.prog 6 #[.pointer (some ⟨b, 0, none⟩)] w (SPt b (N + 5) w) := by
  have hbw := hs.lt
  have hg0 := gr_alloc (r := none) (World.grownBy.refl w none) (.cells #[.int .i64 0, .int .i64 0] 29)
  have K0 := Cell.new w [.int .i64 0, .int .i64 0] 29 0 _ rfl _ rfl
  have K1 := Cell.new w [.int .i64 0, .int .i64 0] 29 1 _ rfl _ rfl
  go_enter Tryz.func6, Tryz.ntmps6
  go_wp2_with fail
  refine (range_any b N _ _ _ (hs.pure hg0) (by omega) (by omega) (by omega) (by omega)).mono ?_
  rintro e w1 ⟨r1, rfl, _, ho1⟩
  go_wp2_with fail
  refine (range_any b (N + 1) _ _ _ ho1.2 (by omega) (by omega) (by omega) (by omega)).mono ?_
  rintro e w2 ⟨r2, rfl, _, ho2⟩
  have hoA := ho1.trans ho2
  have hz2 := hoA.1.size
  simp at hz2
  have J0 := Cell.new w2 [.int .i64 r1, .int .i64 r2] 29 0 _ rfl _ rfl
  have J1 := Cell.new w2 [.int .i64 r1, .int .i64 r2] 29 1 _ rfl _ rfl
  go_wp2_with fail
  refine (flip_any b (N + 1 + 1) _ _ (hoA.2.pure (gr_alloc (World.grownBy.refl _ _) _)) (by omega) (by omega)).mono ?_
  rintro e w3 ⟨f, rfl, ho3⟩
  have hoB := (hoA.pure (gr_alloc (World.grownBy.refl _ _) (.cells #[.int .i64 r1, .int .i64 r2] 29))).trans ho3
  replace J0 := J0.gr ho3.1 (by simp; omega)
  replace J1 := J1.gr ho3.1 (by simp; omega)
  replace K0 := K0.gr hoB.1 (by simp; omega)
  replace K1 := K1.gr hoB.1 (by simp; omega)
  have hG : SOut b (N + 1 + 1 + 1) w w3 := ⟨gr_trans (gr_any hg0) hoB.1, hoB.2⟩
  clear hg0 ho1 ho2 ho3 hoA hoB hs
  cases f
  · obtain ⟨j0, _⟩ := J0
    obtain ⟨j1, _⟩ := J1
    obtain ⟨k0, f0⟩ := K0
    obtain ⟨k1, f1⟩ := K1
    go_wp2_with fail
    refine bodyPost_ret (v := .agg #[.int .i64 r1, .int .i64 r2]) (by simp [results, Tryz.results6, go_sem, k0, k1, f0, f1]) rfl ⟨⟨r1, r2⟩, rfl, ?_⟩
    exact ((hG.mono (by omega)).set hbw (Nat.le_refl _) _).set hbw (Nat.le_refl _) _
  · go_wp2_with fail
    refine (odd_any b (N + 1 + 1 + 1) _ _ _ hG.2 (by omega) (by omega) (by omega) (by omega)).mono ?_
    rintro e w4 ⟨r3, rfl, _, ho4⟩
    have hG4 := hG.trans ho4
    have hz3 := hG4.size
    obtain ⟨j0, j0f⟩ := J0.gr ho4.1 (by simp; omega)
    obtain ⟨j1, _⟩ := J1.gr ho4.1 (by simp; omega)
    obtain ⟨k0, f0⟩ := K0.gr ho4.1 (by simp; omega)
    obtain ⟨k1, f1⟩ := K1.gr ho4.1 (by simp; omega)
    have hne : w2.heap.size ≠ w.heap.size := by omega
    go_wp2_with fail
    refine bodyPost_ret (v := .agg #[.int .i64 r3, .int .i64 r2]) (by simp [results, Tryz.results6, go_sem, k0, k1, f0, f1, hne]) rfl ⟨⟨r3, r2⟩, rfl, ?_⟩
    exact (((hG4.mono (by omega)).set hbw (show w.heap.size ≤ w2.heap.size by omega) _).set hbw (Nat.le_refl _) _).set hbw (Nat.le_refl _) _

end Go.Proofs.YtejmbaiioblfeaaGreatDoor

namespace Go.Proofs.YtejmbaiioblfeaaGreatDoor
open Go.RowKit Go.Bl

def PLOut (b : Nat) (N : Int) (most : Nat) (w : World) (e : Ending) (w' : World) : Prop := ∃ (l : List PathV) (A : Option Addr) (c : Nat), e = .returned (.slice A l.length c) ∧ Sl w' w.heap.size A l ∧ l.length ≤ most ∧ (∀ p ∈ l, p.pts.length ≤ 4) ∧ SOut b (N + 1000) w w'

/-- the world while a path gets its points -/
def PIn (b gp : Nat) (N : Int) (wr : World) (pts : List Pt) (A : Option Addr) (c : Nat) (w : World) : Prop :=
  Own w (gp + 1) 29 A c pts ∧ Cell w gp 0 (.slice A pts.length c) ∧ Cell w gp 1 (.bool false) ∧ SOut b N wr w

def VPt : Value → World → Prop := fun v _ => ∃ p : Pt, v = .agg #[.int .i64 p.x, .int .i64 p.y]

/-- the world while p.Points = append(p.Points, Point{..}) is done -/
def PMid (b gp lo : Nat) (N : Int) (W : World) (pts : List Pt) (A : Option Addr) (c : Nat) (m : Nat → Bool) (k : Nat) (w : World) : Prop :=
  SOut b (N + k) W w ∧ (m 10 = false → Own w (gp + 1) 29 A c pts) ∧ (m 12 = false → Cell w gp 0 (.slice A pts.length c)) ∧ Cell w gp 1 (.bool false) ∧ gp < lo ∧ lo ≤ w.heap.size

def PWr (b gp : Nat) (A : Option Addr) (m : Nat → Bool) (g : Nat) : Prop := g = b ∨ (m 12 = false ∧ g = gp) ∨ (m 10 = false ∧ m 12 = false ∧ blk A = some g)

def VAppP (gp : Nat) (pts : List Pt) : Value → World → Prop := fun v w => ∃ (pp : List Pt) (A : Option Addr) (c : Nat), Hid (pp.length = pts.length + 1) ∧ v = .slice A pp.length c ∧ Own w (gp + 1) 29 A c pp

def VDone (gp : Nat) (pts : List Pt) : Value → World → Prop := fun _ w => ∃ (pp : List Pt) (A : Option Addr) (c : Nat), Hid (pp.length = pts.length + 1) ∧ Cell w gp 0 (.slice A pp.length c) ∧ Own w (gp + 1) 29 A c pp

theorem PMid.st {b gp lo : Nat} {N : Int} {W : World} {pts : List Pt} {A : Option Addr} {c : Nat} {m : Nat → Bool} {k : Nat} {w w' : World} (h : PMid b gp lo N W pts A c m k w) (hb : b < gp) {j : Nat} (hj : (j == 10) = false ∧ (j == 12) = false) (k' : Nat) (hs : SOut b (N + k + k') w w') : PMid b gp lo N W pts A c (setm m j) (k + k') w' := by
  obtain ⟨h1, h2, h3, h4, h5, h6⟩ := h
  have e10 : setm m j 10 = m 10 := setm_ne (by rw [← hj.1]; simp [BEq.comm])
  have e12 : setm m j 12 = m 12 := setm_ne (by rw [← hj.2]; simp [BEq.comm])
  refine ⟨(h1.trans hs).mono (by omega), fun hm => (h2 (by rwa [← e10])).keep hs.1 (fun g e => by cases e; omega), fun hm => (h3 (by rwa [← e12])).gr hs.1 (by simp; omega), h4.gr hs.1 (by simp; omega), h5, by have := hs.size; omega⟩

end Go.Proofs.YtejmbaiioblfeaaGreatDoor

namespace Go.Proofs.YtejmbaiioblfeaaGreatDoor
open Go.RowKit Go.Bl

def SIntsP (b : Nat) (N : Int) (n : Nat) (w : World) (e : Ending) (w' : World) : Prop := ∃ (l : List Int) (A : Option Addr) (c : Nat), e = .returned (.slice A l.length c) ∧ Own w' w.heap.size 3 A c l ∧ l.length = n ∧ l.Perm ((List.range n).map Int.ofNat) ∧ SOut b N w w'

set_option maxHeartbeats 2000000 in
set_option maxRecDepth 100000 in
theorem orderP_any (b : Nat) (N : Int) (n : Nat) (w : World) (hs : Strm w b N) (hN : N ≤ 1000000000) (hn : n ≤ 1000000) :
    Calls Tryz.prog 8 #[.pointer (some ⟨b, 0, none⟩), .int .i64 n] w (SIntsP b (N + n) n w) := by
  have hbw := hs.lt
  obtain ⟨i0, hi, hz, h1, h2⟩ := info_parts info_int
  go_enter Tryz.func8, Tryz.ntmps8
  go_wp2_with fail
  go_loopw [5, 10] (fun o i wr => ∃ (k : Nat) (l : List Int) (A' : Option Addr) (c' : Nat), k ≤ n ∧ i = .int .i64 k ∧ o = .slice A' l.length c' ∧ Hid (l.length = k) ∧ Hid (l = (List.range k).map Int.ofNat) ∧ Own wr w.heap.size 3 A' c' l ∧ w.grownBy wr none) (fun _ i _ => n - (intOf i).toNat)
  case atStart => exact ⟨0, [], none, 0, Nat.zero_le _, rfl, rfl, rfl, rfl, Own.nil _ _ _, World.grownBy.refl _ _⟩
  case round =>
    obtain ⟨k, l, A', c', hk, rfl, rfl, hlk, hle, hown, hg⟩ := hrel
    by_cases hlt : k < n
    · go_wp2_with (at_builtin; refine wpList_push (α := Int) _ rfl (.tmp 13) (.tmp 15) _ rfl w.heap.size 3 i0 _ 8 Tryz.underlying22 hi hz h1 h2 rfl _ _ _ l rfl ?c1 (by exact (hown.pure (by repeat (first | exact World.grownBy.refl _ _ | assumption | refine gr_alloc ?_ _ | refine gr_drewN ?_ _ | refine gr_drew ?_)))) 0 ⟨_, 0, none⟩ 1 1 [(k : Int)] rfl rfl (by exact sl_int1 _ _ _ _ (by first | rfl | simp)) ?c2 ?c3 ?c4 ?_)
      case c1 => rfl
      case c2 => rw [hlk.out]; simp; omega
      case c3 => rw [hlk.out]; simp [maxLen]; omega
      case c4 => simp; have := hg.size; omega
      intro A2 c2 w2 hown2 hup2
      go_wp2
      (go_roundw; (case rel => exact ⟨k + 1, _, A2, c2, by omega, by go_num, by simp, by simp [Hid, hlk.out], by rw [Hid, hle.out, List.range_succ, List.map_append]; rfl, hown2, hup2.gr (Nat.le_refl _) (gr_alloc hg _)⟩); (case measure => simp [intOf]; omega))
    · have hkn : k = n := by omega
      have hln : Hid (l.length = n) := by rw [Hid, hlk.out, hkn]
      have hle2 : Hid (l = (List.range n).map Int.ofNat) := by rw [Hid, hle.out, hkn]
      have hs2 := hs.pure hg
      have hgs : SOut b N w wr := ⟨gr_any hg, hs2⟩
      clear hkn hlk hs2 hle
      rename World => wq
      go_wp2_with fail
      by_cases h0 : n = 0
      · subst h0
        refine wp_loop_once ?_
        go_wp2_with fail
        go_ret
        exact ⟨l, A', c', rfl, hown, hln.out, (by rw [hle2.out]), hgs.mono (by simp)⟩
      · obtain ⟨g, rfl, hgl, hgs2⟩ := hown.shape (by rw [hln.out]; omega)
        go_loopw [7] (fun i wr => ∃ (j : Nat) (m : List Int), i = .int .i64 j ∧ j + 1 ≤ n ∧ Hid (m.length = n) ∧ Hid (m.Perm ((List.range n).map Int.ofNat)) ∧ Own wr w.heap.size 3 (some ⟨g, 0, none⟩) c' m ∧ SOut b (N + (n - 1 - j)) w wr) (fun i _ => (intOf i).toNat)
        case atStart => exact ⟨n - 1, l, by congr 1; omega, by omega, hln, (by rw [Hid, hle2.out]), hown, hgs.mono (by omega)⟩
        case round =>
          obtain ⟨j, m, rfl, hj, hml, hpm, hown, hS⟩ := hrel
          by_cases hj0 : 0 < j
          · go_wp2_with fail
            refine (next_any b _ _ _ hS.2 (by omega) (by omega)).mono ?_
            rintro e w2 ⟨r, rfl, ⟨hr0, hr1⟩, ho2⟩
            obtain ⟨r, rfl⟩ := Int.eq_ofNat_of_zero_le hr0
            have hown2 := hown.s ho2 hbw
            have hjm : j < m.length := by rw [hml.out]; omega
            have hrm : r < m.length := by rw [hml.out]; omega
            have hjl : j < l.length := by rw [hln.out]; omega
            have hrl : r < l.length := by rw [hln.out]; omega
            have c0 := hown2.cell_int hjm
            have c1 := hown2.cell_int hrm
            have f0 := hown2.frozen j
            have f1 := hown2.frozen r
            have hset := (hown2.set_int j m[r]).set_int r m[j]
            have hset := hide hset
            have hS2 := hS.trans ho2
            have hpm2 : Hid (((m.set j m[r]).set r m[j]).Perm ((List.range n).map Int.ofNat)) := (List.set_set_perm hjm hrm).trans hpm.out
            have hml2 : Hid (((m.set j m[r]).set r m[j]).length = n) := by simp [Hid, hml.out]
            by_cases hrj : r = j
            · subst hrj
              go_wp2_with fail
              go_region
              all_goals
                go_wp2
                go_roundw
                case rel => exact ⟨r - 1, _, by congr 1; omega, by omega, hml2, hpm2, hset.out.pure (gr_drew (World.grownBy.refl _ _)), ((hS2.set hbw hgl _).set hbw hgl _).drew.mono (by omega)⟩
                case measure => simp [intOf]; omega
            · have hjr : j ≠ r := fun e => hrj e.symm
              go_wp2_with fail
              go_region
              all_goals
                go_wp2
                go_roundw
                case rel => exact ⟨j - 1, _, by congr 1; omega, by omega, hml2, hpm2, hset.out.pure (gr_drew (World.grownBy.refl _ _)), ((hS2.set hbw hgl _).set hbw hgl _).drew.mono (by omega)⟩
                case measure => simp [intOf]; omega
          · have hj2 : j = 0 := by omega
            subst hj2
            go_wp2_with fail
            go_ret
            exact ⟨m, _, c', by rw [hml.out, ← hln.out]; exact rfl, hown, hml.out, hpm.out, hS.mono (by omega)⟩

end Go.Proofs.YtejmbaiioblfeaaGreatDoor

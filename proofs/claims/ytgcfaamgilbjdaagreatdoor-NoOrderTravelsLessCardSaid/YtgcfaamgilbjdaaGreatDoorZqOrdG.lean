/- Contracts of functions that this seat's laws reach, each: what one call returns and what it leaves in memory; no condition beyond each theorem's own hypotheses. -/
import Derived.Test.YtgcfaamgilbjdaaGreatDoorZqStream
import Derived.Test.YtgcfaamgilbjdaaGreatDoorZqTree
import Derived.Test.YtgcfaamgilbjdaaGreatDoorZqBitRun
set_option linter.unusedVariables false
set_option linter.unusedSimpArgs false
namespace Go.Proofs.YtgcfaamgilbjdaaGreatDoor
open Go.RowKit Go.Bl

theorem info_int : (Tryz.prog.info? 3).map (fun i => (i.zero, i.size, i.bytes)) = some (some (.int .i64 0), 1, 8) := by kernel_rfl

set_option maxHeartbeats 400000 in
theorem outside_any (n a b : Int) (w : World) :
    Calls Tryz.prog 51 #[.int .i64 n, .int .i64 a, .int .i64 b] w fun e w' => e = .returned (.bool (outB n a b)) ∧ w = w' := by
  by_cases h1 : n < a
  · go_enter Tryz.func51, Tryz.ntmps51
    go_wp2
    go_ret
    exact ⟨by simp [outB, h1], rfl⟩
  · by_cases h2 : b < n
    · go_enter Tryz.func51, Tryz.ntmps51
      go_wp2
      go_ret
      exact ⟨by simp [outB, h1, h2], rfl⟩
    · go_enter Tryz.func51, Tryz.ntmps51
      go_wp2
      go_ret
      exact ⟨by simp [outB, h1, h2], rfl⟩

set_option maxHeartbeats 400000 in
theorem in_any (n a b : Int) (w : World) :
    Calls Tryz.prog 63 #[.int .i64 n, .int .i64 a, .int .i64 b] w fun e w' => e = .returned (.bool (inB n a b)) ∧ w = w' := by
  by_cases h1 : a ≤ n
  · by_cases h2 : n ≤ b
    · go_enter Tryz.func63, Tryz.ntmps63
      go_wp2
      go_ret
      exact ⟨ret_bool (inB_of h1 h2).symm, rfl⟩
    · have hb := hide (inB_hi (a := a) h2)
      go_enter Tryz.func63, Tryz.ntmps63
      go_wp2
      go_ret
      exact ⟨ret_bool hb.out.symm, rfl⟩
  · have hb := hide (inB_lo (b := b) h1)
    go_enter Tryz.func63, Tryz.ntmps63
    go_wp2
    go_ret
    exact ⟨ret_bool hb.out.symm, rfl⟩

set_option maxHeartbeats 1000000 in
theorem checkBeads_any (A : Option Addr) (c : Nat) (l : List Bead) (w : World) (hl : Sl w 0 A l) :
    Calls Tryz.prog 42 #[.slice A l.length c] w fun e w' => e = .returned (.int .i64 (checkBeads l)) ∧ w.grownBy w' none := by
  have hm := hl.1
  unfold maxLen at hm
  by_cases h0 : 5000 < l.length
  · go_enter Tryz.func42, Tryz.ntmps42
    go_wp2
    go_ret
    exact ⟨by simp [checkBeads, h0], World.grownBy.refl _ _⟩
  · go_enter Tryz.func42, Tryz.ntmps42
    go_wp2
    go_loopw [10] (fun i wr => ∃ k : Nat, k ≤ l.length ∧ i = .int .i64 k ∧ w.grownBy wr none ∧ Hid ((l.take k).all okBead = true)) (fun i _ => l.length - (intOf i).toNat)
    case atStart => exact ⟨0, Nat.zero_le _, rfl, World.grownBy.refl _ _, by simp [Hid]⟩
    case round =>
      obtain ⟨k, hk, rfl, hg, hall⟩ := hrel
      by_cases hlt : k < l.length
      · obtain ⟨g, o, cx, rfl, hb0, hb1, rfl, hc⟩ := (hl.pure hg).at_ (by decide) hlt
        have c0 : wr.cell? ⟨g, o + k * 3, none⟩ = some (.int .i64 l[k].long) := hc 0 _ rfl
        have c1 : wr.cell? ⟨g, o + k * 3 + 1, none⟩ = some (.int .i64 l[k].wide) := hc 1 _ rfl
        have c2 : wr.cell? ⟨g, o + k * 3 + 2, none⟩ = some (.int .i64 l[k].high) := hc 2 _ rfl
        clear hc
        have HS : Hid ((l.take (k+1)).all okBead = ((l.take k).all okBead && okBead l[k])) := by
          simp only [Hid]; rw [take_snoc hlt, List.all_append]; simp
        have HB : Hid (okBead l[k] = false → Ending.returned (.int .i64 1) = .returned (.int .i64 (checkBeads l))) := fun hf => by
          have : l.all okBead = false := by
            rw [List.all_eq_false]; exact ⟨l[k], List.getElem_mem _, by simp [hf]⟩
          simp [checkBeads, h0, this]
        rcases h1 : outB l[k].long 0 10000000 with _ | _
        · rcases h2 : outB l[k].wide 1 5000 with _ | _
          · rcases h3 : outB l[k].high 1 5000 with _ | _
            · have hok : Hid (okBead l[k] = true) := by simp [Hid, okBead, h1, h2, h3]
              go_wp2_with (go_at_call 51; refine (outside_any _ _ _ _).mono ?_; rintro e w' ⟨rfl, rfl⟩)
              go_roundw
              case rel => exact ⟨k + 1, by omega, by go_num, gr_alloc hg _, by simp only [Hid] at *; rw [HS, hall, hok]; rfl⟩
              case measure => simp [intOf]; omega
            · have hok : Hid (okBead l[k] = false) := by simp [Hid, okBead, h1, h2, h3]
              go_wp2_with (go_at_call 51; refine (outside_any _ _ _ _).mono ?_; rintro e w' ⟨rfl, rfl⟩)
              go_ret
              exact ⟨HB.out hok.out, gr_alloc hg _⟩
          · have hok : Hid (okBead l[k] = false) := by simp [Hid, okBead, h1, h2]
            go_wp2_with (go_at_call 51; refine (outside_any _ _ _ _).mono ?_; rintro e w' ⟨rfl, rfl⟩)
            go_ret
            exact ⟨HB.out hok.out, gr_alloc hg _⟩
        · have hok : Hid (okBead l[k] = false) := by simp [Hid, okBead, h1]
          go_wp2_with (go_at_call 51; refine (outside_any _ _ _ _).mono ?_; rintro e w' ⟨rfl, rfl⟩)
          go_ret
          exact ⟨HB.out hok.out, gr_alloc hg _⟩
      · have HB : Hid (Ending.returned (.int .i64 0) = .returned (.int .i64 (checkBeads l))) := by
          have : l.all okBead = true := by have := hall.out; rwa [List.take_of_length_le (by omega)] at this
          simp [Hid, checkBeads, h0, this]
        go_wp2
        go_ret
        exact ⟨HB.out, hg⟩

set_option maxHeartbeats 1000000 in
theorem volume_any (A : Option Addr) (c : Nat) (l : List Bead) (w : World) (hl : Sl w 0 A l) :
    Calls Tryz.prog 43 #[.slice A l.length c] w fun e w' => e = .returned (.int .i64 (volW l)) ∧ w.grownBy w' none := by
  have hm := hl.1
  unfold maxLen at hm
  go_enter Tryz.func43, Tryz.ntmps43
  go_wp2
  go_loopw [3, 8] (fun n i wr => ∃ k : Nat, k ≤ l.length ∧ i = .int .i64 k ∧ n = .int .i64 (volW (l.take k)) ∧ w.grownBy wr none) (fun _ i _ => l.length - (intOf i).toNat)
  case atStart => exact ⟨0, Nat.zero_le _, rfl, rfl, World.grownBy.refl _ _⟩
  case round =>
    obtain ⟨k, hk, rfl, rfl, hg⟩ := hrel
    by_cases hlt : k < l.length
    · obtain ⟨g, o, cx, rfl, hb0, hb1, rfl, hc⟩ := (hl.pure hg).at_ (by decide) hlt
      have c0 : wr.cell? ⟨g, o + k * 3, none⟩ = some (.int .i64 l[k].long) := hc 0 _ rfl
      have c1 : wr.cell? ⟨g, o + k * 3 + 1, none⟩ = some (.int .i64 l[k].wide) := hc 1 _ rfl
      have c2 : wr.cell? ⟨g, o + k * 3 + 2, none⟩ = some (.int .i64 l[k].high) := hc 2 _ rfl
      clear hc
      have HS : Hid (volW (l.take (k+1)) = wrap64 (volW (l.take k) + wrap64 (wrap64 (l[k].long * l[k].wide) * l[k].high))) := by simp only [Hid]; rw [take_snoc hlt, volW_snoc]; rfl
      go_wp2
      go_roundw
      case rel => exact ⟨k + 1, by omega, by go_num, by rw [HS.out], gr_alloc hg _⟩
      case measure => simp [intOf]; omega
    · have HB : Hid (volW (l.take k) = volW l) := by simp only [Hid]; rw [List.take_of_length_le (by omega)]
      go_wp2
      go_ret
      exact ⟨ret_int HB.out, hg⟩

end Go.Proofs.YtgcfaamgilbjdaaGreatDoor

namespace Go.Proofs.YtgcfaamgilbjdaaGreatDoor
open Go.RowKit Go.Bl

theorem info_pt : (Tryz.prog.info? 28).map (fun i => (i.zero, i.size, i.bytes)) = some (some (.agg #[.int .i64 0, .int .i64 0]), 2, 16) := by kernel_rfl

theorem info_path : (Tryz.prog.info? 91).map (fun i => (i.zero, i.size, i.bytes)) = some (some (.agg #[.slice none 0 0, .bool false]), 2, 32) := by kernel_rfl

theorem info_vis : (Tryz.prog.info? 43).map (fun i => (i.zero, i.size, i.bytes)) = some (some (.agg #[.int .i64 0, .int .i64 0, .bool false]), 3, 24) := by kernel_rfl

def SPt (b : Nat) (N : Int) (w : World) (e : Ending) (w' : World) : Prop := ∃ p : Pt, e = .returned (.agg #[.int .i64 p.x, .int .i64 p.y]) ∧ SOut b N w w'

end Go.Proofs.YtgcfaamgilbjdaaGreatDoor

namespace Go.Proofs.YtgcfaamgilbjdaaGreatDoor
open Go.RowKit Go.Bl

def PLOut (b : Nat) (N : Int) (most : Nat) (w : World) (e : Ending) (w' : World) : Prop := ∃ (l : List PathV) (A : Option Addr) (c : Nat), e = .returned (.slice A l.length c) ∧ Sl w' w.heap.size A l ∧ l.length ≤ most ∧ (∀ p ∈ l, p.pts.length ≤ 4) ∧ SOut b (N + 1000) w w'

/-- the world while a path gets its points -/
def PIn (b gp : Nat) (N : Int) (wr : World) (pts : List Pt) (A : Option Addr) (c : Nat) (w : World) : Prop :=
  Own w (gp + 1) 28 A c pts ∧ Cell w gp 0 (.slice A pts.length c) ∧ Cell w gp 1 (.bool false) ∧ SOut b N wr w

def VPt : Value → World → Prop := fun v _ => ∃ p : Pt, v = .agg #[.int .i64 p.x, .int .i64 p.y]

/-- the world while p.Points = append(p.Points, Point{..}) is done -/
def PMid (b gp lo : Nat) (N : Int) (W : World) (pts : List Pt) (A : Option Addr) (c : Nat) (m : Nat → Bool) (k : Nat) (w : World) : Prop :=
  SOut b (N + k) W w ∧ (m 10 = false → Own w (gp + 1) 28 A c pts) ∧ (m 12 = false → Cell w gp 0 (.slice A pts.length c)) ∧ Cell w gp 1 (.bool false) ∧ gp < lo ∧ lo ≤ w.heap.size

def PWr (b gp : Nat) (A : Option Addr) (m : Nat → Bool) (g : Nat) : Prop := g = b ∨ (m 12 = false ∧ g = gp) ∨ (m 10 = false ∧ m 12 = false ∧ blk A = some g)

def VAppP (gp : Nat) (pts : List Pt) : Value → World → Prop := fun v w => ∃ (pp : List Pt) (A : Option Addr) (c : Nat), Hid (pp.length = pts.length + 1) ∧ v = .slice A pp.length c ∧ Own w (gp + 1) 28 A c pp

def VDone (gp : Nat) (pts : List Pt) : Value → World → Prop := fun _ w => ∃ (pp : List Pt) (A : Option Addr) (c : Nat), Hid (pp.length = pts.length + 1) ∧ Cell w gp 0 (.slice A pp.length c) ∧ Own w (gp + 1) 28 A c pp

theorem PMid.al {b gp lo : Nat} {N : Int} {W : World} {pts : List Pt} {A : Option Addr} {c : Nat} {m : Nat → Bool} {k : Nat} {w : World} (h : PMid b gp lo N W pts A c m k w) (o : Obj) : PMid b gp lo N W pts A c m k (w.alloc o) :=
  have hg := gr_alloc (r := none) (World.grownBy.refl w none) o
  ⟨h.1.al o, fun hm => (h.2.1 hm).pure hg, fun hm => (h.2.2.1 hm).gr hg (by simp), h.2.2.2.1.gr hg (by simp), h.2.2.2.2.1, by have := h.2.2.2.2.2; simp; omega⟩

theorem PMid.st {b gp lo : Nat} {N : Int} {W : World} {pts : List Pt} {A : Option Addr} {c : Nat} {m : Nat → Bool} {k : Nat} {w w' : World} (h : PMid b gp lo N W pts A c m k w) (hb : b < gp) {j : Nat} (hj : (j == 10) = false ∧ (j == 12) = false) (k' : Nat) (hs : SOut b (N + k + k') w w') : PMid b gp lo N W pts A c (setm m j) (k + k') w' := by
  obtain ⟨h1, h2, h3, h4, h5, h6⟩ := h
  have e10 : setm m j 10 = m 10 := setm_ne (by rw [← hj.1]; simp [BEq.comm])
  have e12 : setm m j 12 = m 12 := setm_ne (by rw [← hj.2]; simp [BEq.comm])
  refine ⟨(h1.trans hs).mono (by omega), fun hm => (h2 (by rwa [← e10])).keep hs.1 (fun g e => by cases e; omega), fun hm => (h3 (by rwa [← e12])).gr hs.1 (by simp; omega), h4.gr hs.1 (by simp; omega), h5, by have := hs.size; omega⟩

set_option maxHeartbeats 4000000 in
set_option maxRecDepth 100000 in
theorem pathList_any (b : Nat) (N : Int) (most : Nat) (w : World) (hs : Strm w b N) (hN : N ≤ 100000000) (hm : most ≤ 10) :
    Calls Tryz.prog 15 #[.pointer (some ⟨b, 0, none⟩), .int .i64 most] w (PLOut b N most w) := by
  have hbw := hs.lt
  go_enter Tryz.func15, Tryz.ntmps15
  go_wp2_with fail
  refine (range_any b N _ _ _ hs (by omega) (by omega) (by omega) (by omega)).mono ?_
  rintro e w1 ⟨n, rfl, ⟨hn0, hn1⟩, ho1⟩
  obtain ⟨n, rfl⟩ := Int.eq_ofNat_of_zero_le hn0
  go_wp2_with fail
  go_loopw [5, 11] (fun o i wr => ∃ (k : Nat) (l : List PathV) (A : Option Addr) (c : Nat), k ≤ n ∧ i = .int .i64 k ∧ o = .slice A l.length c ∧ OwnN RawP wr w.heap.size 91 A c l ∧ Hid (l.length = k) ∧ Hid (∀ p ∈ l, p.pts.length ≤ 4) ∧ SOut b (N + 1 + 10 * k) w wr) (fun _ i _ => n - (intOf i).toNat)
  case atStart => exact ⟨0, [], none, 0, Nat.zero_le _, rfl, rfl, OwnN.nil _ _ _, rfl, by simp [Hid], ho1.mono (by omega)⟩
  case round =>
    obtain ⟨k, l, A, c, hk, rfl, rfl, hown, hlen, hpl, ho⟩ := hrel
    by_cases hlt : k < n
    · have hwW := ho.size
      have hz := hwW
      go_wp2_with fail
      refine (range_any b (N + 1 + 10 * k) _ _ _ (ho.al _).2 (by omega) (by omega) (by omega) (by omega)).mono ?_
      rintro e w2 ⟨m, rfl, ⟨hm0, hm1⟩, ho2⟩
      obtain ⟨m, rfl⟩ := Int.eq_ofNat_of_zero_le (show 0 ≤ m by omega)
      have J0 := (Cell.new wr [.slice none 0 0, .bool false] 91 0 _ rfl _ rfl).gr ho2.1 (by simp; omega)
      have J1 := (Cell.new wr [.slice none 0 0, .bool false] 91 1 _ rfl _ rfl).gr ho2.1 (by simp; omega)
      have hoR : SOut b (N + 1 + 10 * k + 1) wr w2 := ((SOut.refl ho.2).al _).trans ho2
      clear ho2
      obtain ⟨W, hW⟩ : ∃ W : World, W = wr := ⟨_, rfl⟩
      subst hW
      go_wp2_with fail
      go_loopw [15] (fun j wx => ∃ (q : Nat) (pts : List Pt) (A' : Option Addr) (c' : Nat), q ≤ m ∧ j = .int .i64 q ∧ Hid (pts.length = q) ∧ PIn b W.heap.size (N + 1 + 10 * k + 1 + 2 * q) W pts A' c' wx) (fun j _ => m - (intOf j).toNat)
      case atStart => exact ⟨0, [], none, 0, Nat.zero_le _, rfl, rfl, Own.nil _ _ _, J0, J1, hoR.mono (by omega)⟩
      case round =>
        obtain ⟨q, pts, A', c', hq, rfl, hpts, hO, ⟨p0, pf0⟩, ⟨p1, pf1⟩, hS⟩ := hrel
        by_cases hqm : q < m
        · go_wp2_with fail
          obtain ⟨NN, hNN⟩ : ∃ NN : Int, NN = N + 1 + 10 * k + 1 + 2 * q := ⟨_, rfl⟩
          rw [← hNN] at hS
          have hNb : NN ≤ 1000000000 := by omega
          have hgs : W.heap.size < wr.heap.size := cell_lt p0
          obtain ⟨lo, hlo⟩ : ∃ lo : Nat, lo = wr.heap.size := ⟨_, rfl⟩
          have hbgp : b < W.heap.size := by omega
          have hW1 : ∀ m g, PWr b W.heap.size A' m g → g < lo := fun m g h => by
            rcases h with h | ⟨_, h⟩ | ⟨_, _, h⟩
            · omega
            · omega
            · have := (hO.blk_lt h).2; omega
          have hlow : lo ≤ wr.heap.size := by omega
          have hglo : W.heap.size < lo := by omega
          have hblo : b < lo := by omega
          replace hlo := hide hlo
          replace hNN := hide hNN
          obtain ⟨i0, hi, hz, h1, h2⟩ := info_parts info_pt
          have hpt4 : pts.length ≤ 4 := by have := hpts.out; omega
          have hq0 := hide hpts.out
          refine wp_region_minvF (PMid b W.heap.size lo NN W pts A' c') (fun m => Wrt (PWr b W.heap.size A' m)) [VIs (.pointer (some ⟨W.heap.size, 0, none⟩)), VIs (.slice A' pts.length c'), VIs (.pointer (some ⟨b, 0, none⟩)), VLitI lo [0, 1, 2, 5, 9], VInt, VIs (.pointer (some ⟨b, 0, none⟩)), VLitI lo [0, 0, 1, 4], VInt, VPt, VLit (α := Pt) lo 1, VAppP W.heap.size pts, VIs (.pointer (some ⟨W.heap.size, 0, none⟩)), VDone W.heap.size pts]
            [0, 0, 0, 0, 1, 0, 0, 1, 0, 0, 0, 0, 0] (by kernel_rfl) (by kernel_rfl) (by intro vs; simp only [putAll, Act.put, List.setIfInBounds_toArray, List.set_cons_zero, List.set_cons_succ, Nat.reduceAdd]; exact rfl) ?iv0 ?iv1 rfl ?iv2 ?iv3
          case iv0 =>
            have hg := gr_drew (r := none) (World.grownBy.refl wr none)
            exact fun m _ => ⟨(hS.mono (by omega)).drew, fun _ => hO.pure hg, fun _ => Cell.gr ⟨p0, pf0⟩ hg (by simp), Cell.gr ⟨p1, pf1⟩ hg (by simp), hglo, hlow⟩
          case iv1 =>
            have q1 : ∀ x (m : Nat → Bool) v w w', m 0 = m 0 → Wrt (PWr b W.heap.size A' m) w w' → VIs x v w → VIs x v w' := fun x m v w w' _ _ h => h
            have q2 : ∀ l (m : Nat → Bool) v w w', Wrt (PWr b W.heap.size A' m) w w' → VLitI lo l v w → VLitI lo l v w' := fun l m v w w' hw h => h.stab hw (hW1 m)
            refine Stab.ok ⟨fun m v w w' _ _ h => h, fun m v w w' _ _ h => h, fun m v w w' _ _ h => h, fun m v w w' _ hw h => q2 _ m v w w' hw h, fun m v w w' _ _ h => h, fun m v w w' _ _ h => h, fun m v w w' _ hw h => q2 _ m v w w' hw h, fun m v w w' _ _ h => h, fun m v w w' _ _ h => h,
              fun m v w w' _ hw h => h.stab hw (hW1 m), fun m v w w' hm hw ⟨p, A, c, hl, h1, h2⟩ => ⟨p, A, c, hl, h1, h2.wrt hw fun g h => ?_⟩, fun m v w w' _ _ h => h, fun m v w w' hm hw ⟨p, A, c, hl, h1, h2⟩ => ⟨p, A, c, hl, h1.wrt hw fun h => ?_, h2.wrt hw fun g h => ?_⟩, trivial⟩
            · rcases h with h | ⟨_, h⟩ | ⟨h, _⟩
              · omega
              · omega
              · rw [hm] at h; cases h
            · rcases h with h | ⟨h, _⟩ | ⟨_, h, _⟩
              · omega
              · rw [hm] at h; cases h
              · rw [hm] at h; cases h
            · rcases h with h | ⟨h, _⟩ | ⟨_, h, _⟩
              · omega
              · rw [hm] at h; cases h
              · rw [hm] at h; cases h
          case iv2 =>
            refine MOpsF.op (fun vs wx m k hmj hcl hI hk hf K hK => ?_) ?_
            · clear hf hcl
              replace hK := hide hK
              replace hI := hide hI
              go_wp2_with fail
              replace hK := hK.out (.pointer (some ⟨W.heap.size, 0, none⟩))
              simp only [Act.put, List.setIfInBounds_toArray, List.set_cons_zero, List.set_cons_succ, Nat.add_zero] at hK
              exact hK _ (hI.out) (Wrt.pure (World.grownBy.refl _ _)) (rfl)
            refine MOpsF.op (fun vs wx m k hmj hcl hI hk hf K hK => ?_) ?_
            · have e0 : vs 0 = .pointer (some ⟨W.heap.size, 0, none⟩) := hf 0 (by decide) (by kernel_rfl)
              have h12 : m 12 = false := by
                rcases h : m 12 with _ | _
                · rfl
                · rw [hcl 12 1 (by decide) (by decide) h (by kernel_rfl)] at hmj; cases hmj
              obtain ⟨y0, _⟩ := hI.2.2.1 h12
              clear hf hcl
              replace hK := hide hK
              rw [e0]
              replace e0 := hide e0
              replace hI := hide hI
              go_wp2_with fail
              replace hK := hK.out (.slice A' pts.length c')
              simp only [Act.put, List.setIfInBounds_toArray, List.set_cons_zero, List.set_cons_succ, e0.out] at hK
              exact hK _ (hI.out) (Wrt.pure (World.grownBy.refl _ _)) (rfl)
            refine MOpsF.op (fun vs wx m k hmj hcl hI hk hf K hK => ?_) ?_
            · clear hf hcl
              replace hK := hide hK
              replace hI := hide hI
              go_wp2_with fail
              replace hK := hK.out (.pointer (some ⟨b, 0, none⟩))
              simp only [Act.put, List.setIfInBounds_toArray, List.set_cons_zero, List.set_cons_succ, Nat.add_zero] at hK
              exact hK _ (hI.out) (Wrt.pure (World.grownBy.refl _ _)) (rfl)
            refine MOpsF.op (fun vs wx m k hmj hcl hI hk hf K hK => ?_) ?_
            · clear hf hcl
              replace hK := hide hK
              go_wp2_with fail
              replace hK := hK.out (.slice (some ⟨wx.heap.size, 0, none⟩) ([0, 1, 2, 5, 9]).length ([0, 1, 2, 5, 9]).length)
              simp only [Act.put, List.setIfInBounds_toArray, List.set_cons_zero, List.set_cons_succ, Nat.add_zero] at hK
              exact hK _ ((hI.al _)) (Wrt.pure (gr_alloc (World.grownBy.refl _ _) _)) (⟨wx.heap.size, rfl, sl_intsAt _ _ _ _ _ rfl (hI.2.2.2.2.2) (by simp [maxLen])⟩)
            refine MOpsF.op (fun vs wx m k hmj hcl hI hk hf K hK => ?_) ?_
            · obtain ⟨g, e1, hsl⟩ := hf 3 (by decide) (by kernel_rfl)
              have e0 : vs 2 = .pointer (some ⟨b, 0, none⟩) := hf 2 (by decide) (by kernel_rfl)
              clear hf hcl
              have hk2 : k + 1 ≤ 2 := hk
              clear hk
              replace hK := hide hK
              rw [e0, e1]
              replace e0 := hide e0
              replace e1 := hide e1
              go_wp2_with fail
              refine (pick_any b (NN + k) _ _ _ [0, 1, 2, 5, 9] _ hI.1.2 (by omega) (hsl.mono (by omega)) rfl (by simp)).mono ?_
              rintro e wy ⟨r, rfl, _, hoy⟩
              go_wp2_with fail
              replace hK := hK.out (.int .i64 r)
              simp only [Act.put, List.setIfInBounds_toArray, List.set_cons_zero, List.set_cons_succ, e0.out, e1.out] at hK
              exact hK _ ((hI.st (by omega) (by decide) 1 hoy)) (Wrt.one hoy.1 (.inl rfl)) (⟨r, rfl⟩)
            refine MOpsF.op (fun vs wx m k hmj hcl hI hk hf K hK => ?_) ?_
            · clear hf hcl
              replace hK := hide hK
              replace hI := hide hI
              go_wp2_with fail
              replace hK := hK.out (.pointer (some ⟨b, 0, none⟩))
              simp only [Act.put, List.setIfInBounds_toArray, List.set_cons_zero, List.set_cons_succ, Nat.add_zero] at hK
              exact hK _ (hI.out) (Wrt.pure (World.grownBy.refl _ _)) (rfl)
            refine MOpsF.op (fun vs wx m k hmj hcl hI hk hf K hK => ?_) ?_
            · clear hf hcl
              replace hK := hide hK
              go_wp2_with fail
              replace hK := hK.out (.slice (some ⟨wx.heap.size, 0, none⟩) ([0, 0, 1, 4]).length ([0, 0, 1, 4]).length)
              simp only [Act.put, List.setIfInBounds_toArray, List.set_cons_zero, List.set_cons_succ, Nat.add_zero] at hK
              exact hK _ ((hI.al _)) (Wrt.pure (gr_alloc (World.grownBy.refl _ _) _)) (⟨wx.heap.size, rfl, sl_intsAt _ _ _ _ _ rfl (hI.2.2.2.2.2) (by simp [maxLen])⟩)
            refine MOpsF.op (fun vs wx m k hmj hcl hI hk hf K hK => ?_) ?_
            · obtain ⟨g, e1, hsl⟩ := hf 6 (by decide) (by kernel_rfl)
              have e0 : vs 5 = .pointer (some ⟨b, 0, none⟩) := hf 5 (by decide) (by kernel_rfl)
              clear hf hcl
              have hk2 : k + 1 ≤ 2 := hk
              clear hk
              replace hK := hide hK
              rw [e0, e1]
              replace e0 := hide e0
              replace e1 := hide e1
              go_wp2_with fail
              refine (pick_any b (NN + k) _ _ _ [0, 0, 1, 4] _ hI.1.2 (by omega) (hsl.mono (by omega)) rfl (by simp)).mono ?_
              rintro e wy ⟨r, rfl, _, hoy⟩
              go_wp2_with fail
              replace hK := hK.out (.int .i64 r)
              simp only [Act.put, List.setIfInBounds_toArray, List.set_cons_zero, List.set_cons_succ, e0.out, e1.out] at hK
              exact hK _ ((hI.st (by omega) (by decide) 1 hoy)) (Wrt.one hoy.1 (.inl rfl)) (⟨r, rfl⟩)
            refine MOpsF.op (fun vs wx m k hmj hcl hI hk hf K hK => ?_) ?_
            · obtain ⟨x, e1⟩ := hf 4 (by decide) (by kernel_rfl)
              obtain ⟨y, e2⟩ := hf 7 (by decide) (by kernel_rfl)
              clear hf hcl
              replace hK := hide hK
              replace hI := hide hI
              rw [e1, e2]
              replace e1 := hide e1
              replace e2 := hide e2
              go_wp2_with fail
              replace hK := hK.out (.agg #[.int .i64 x, .int .i64 y])
              simp only [Act.put, List.setIfInBounds_toArray, List.set_cons_zero, List.set_cons_succ, e1.out, e2.out] at hK
              exact hK _ (hI.out) (Wrt.pure (World.grownBy.refl _ _)) (⟨⟨x, y⟩, rfl⟩)
            refine MOpsF.op (fun vs wx m k hmj hcl hI hk hf K hK => ?_) ?_
            · obtain ⟨p, e1⟩ := hf 8 (by decide) (by kernel_rfl)
              clear hf hcl
              replace hK := hide hK
              rw [e1]
              replace e1 := hide e1
              go_wp2_with fail
              replace hK := hK.out (.slice (some ⟨wx.heap.size, 0, none⟩) 1 1)
              simp only [Act.put, List.setIfInBounds_toArray, List.set_cons_zero, List.set_cons_succ, e1.out] at hK
              exact hK _ ((hI.al _)) (Wrt.pure (gr_alloc (World.grownBy.refl _ _) _)) (⟨wx.heap.size, [p], rfl, rfl, sl_oneAt _ _ [.int .i64 p.x, .int .i64 p.y] _ p _ rfl hI.2.2.2.2.2 rfl⟩)
            refine MOpsF.op (fun vs wx m k hmj hcl hI hk hf K hK => ?_) ?_
            · have e1 : vs 1 = .slice A' pts.length c' := hf 1 (by decide) (by kernel_rfl)
              obtain ⟨g, ll, e2, hll, hsl⟩ := hf 9 (by decide) (by kernel_rfl)
              obtain ⟨p, rfl⟩ : ∃ p, ll = [p] := by
                match ll, hll with
                | [p], _ => exact ⟨p, rfl⟩
              have h12 : m 12 = false := by
                rcases h : m 12 with _ | _
                · rfl
                · rw [hcl 12 10 (by decide) (by decide) h (by kernel_rfl)] at hmj; cases hmj
              clear hf hcl
              obtain ⟨a1, a2, a3, a4, a5, a6⟩ := hI
              have hOx := a2 hmj
              replace hK := hide hK
              rw [e1, e2]
              replace e1 := hide e1
              replace e2 := hide e2
              refine wp_pushAt (α := Pt) _ (.tmp 18) (.tmp 26) _ rfl (W.heap.size + 1) 28 i0 _ 16 Tryz.underlying79 hi hz h1 h2 rfl A' pts.length c' pts rfl rfl hOx _ ⟨g, 0, none⟩ 1 1 [p] rfl rfl hsl (by simp; omega) (by simp [maxLen]; omega) (by omega) ?_
              intro A2 c2 w2 hO2 hG2
              have hup := hG2.upd hOx
              have hgb : ∀ g, blk A' = some g → W.heap.size + 1 ≤ g ∧ g < wx.heap.size := fun g hg => hOx.blk_lt hg
              replace hK := hK.out (.slice A2 (pts ++ [p]).length c2)
              simp only [Act.put, List.setIfInBounds_toArray, List.set_cons_zero, List.set_cons_succ, e1.out, e2.out] at hK
              exact hK _ (⟨(a1.new (by omega) hG2.1 (fun g hg => by have := hgb g hg; omega)), fun h => by simp [setm] at h, fun _ => (a3 h12).gr hG2.1 (fun e => by have := hgb _ e; omega), a4.gr hG2.1 (fun e => by have := hgb _ e; omega), a5, by have := hG2.1.size; omega⟩) (⟨_, hG2.1, fun g hg => .inr (.inr ⟨hmj, h12, hg⟩)⟩) (⟨pts ++ [p], A2, c2, by simp [Hid], rfl, hO2⟩)
            refine MOpsF.op (fun vs wx m k hmj hcl hI hk hf K hK => ?_) ?_
            · clear hf hcl
              replace hK := hide hK
              replace hI := hide hI
              go_wp2_with fail
              replace hK := hK.out (.pointer (some ⟨W.heap.size, 0, none⟩))
              simp only [Act.put, List.setIfInBounds_toArray, List.set_cons_zero, List.set_cons_succ, Nat.add_zero] at hK
              exact hK _ (hI.out) (Wrt.pure (World.grownBy.refl _ _)) (rfl)
            refine MOpsF.op (fun vs wx m k hmj hcl hI hk hf K hK => ?_) ?_
            · obtain ⟨pp, A2, c2, hpp, e1, hO2⟩ := hf 10 (by decide) (by kernel_rfl)
              have e2 : vs 11 = .pointer (some ⟨W.heap.size, 0, none⟩) := hf 11 (by decide) (by kernel_rfl)
              clear hf hcl
              obtain ⟨a1, a2, a3, a4, a5, a6⟩ := hI
              have hC := a3 hmj
              obtain ⟨y0, y1⟩ := hC
              replace hK := hide hK
              rw [e1, e2]
              replace e1 := hide e1
              replace e2 := hide e2
              go_wp2_with fail
              have hcs := (show Cell wx W.heap.size 0 (.slice A' pts.length c') from ⟨y0, y1⟩).set_ (.slice A2 pp.length c2)
              have hgw := gr_set (r := some W.heap.size) (p := ⟨W.heap.size, 0, none⟩) (World.grownBy.refl wx _) (.inl rfl) (.slice A2 pp.length c2)
              replace hK := hK.out undef
              simp only [Act.put, List.setIfInBounds_toArray, List.set_cons_zero, List.set_cons_succ, e1.out, e2.out] at hK
              exact hK _ (⟨a1.set (by omega) (Nat.le_refl _) _, fun h => (a2 h).keep hgw (fun g e => by cases e; omega), fun h => by simp [setm] at h, a4.set_ne _ (by decide), a5, by simpa [World.setCell] using a6⟩) (Wrt.one hgw (.inr (.inl ⟨hmj, rfl⟩))) (⟨pp, A2, c2, hpp, hcs, hO2.keep hgw (fun g e => by cases e; omega)⟩)
            exact MOpsF.done
          case iv3 =>
          intro vs w7 m hm hI hf
          obtain ⟨pp, A2, c2, hpp, hC0, hO2⟩ := hf 12 (by decide)
          obtain ⟨a1, _, _, a4, _, _⟩ := hI
          clear hf hm
          go_wp2_with fail
          go_roundw
          case rel => exact ⟨q + 1, pp, A2, c2, by omega, by go_num, by rw [hpp.out, hq0.out]; exact rfl, hO2, hC0, a4, a1.mono (by have := hNN.out; simp; omega)⟩
          case measure => simp [intOf]; omega
        · have hbW : b < W.heap.size := by omega
          obtain ⟨NN, hNN⟩ : ∃ NN : Int, NN = N + 1 + 10 * k + 1 + 2 * q + 1 := ⟨_, rfl⟩
          have hS0 := hS
          clear hS
          have hNb : NN ≤ N + 1 + 10 * k + 10 := by omega
          have hp4 : pts.length ≤ 4 := by have := hpts.out; omega
          replace hp4 := hide hp4
          obtain ⟨i0, hi, hz, h1, h2⟩ := info_parts info_path
          by_cases h2p : 2 < pts.length
          · go_wp2_with fail
            refine (flip_any b _ _ _ (hS0.2) (by omega) (by omega)).mono ?_
            rintro e wf ⟨f, rfl, hof⟩
            obtain ⟨p0, pf0⟩ := (show Cell wr W.heap.size 0 _ from ⟨p0, pf0⟩).gr hof.1 (by simp; omega)
            obtain ⟨p1, pf1⟩ := (show Cell wr W.heap.size 1 _ from ⟨p1, pf1⟩).gr hof.1 (by simp; omega)
            replace hO := hO.s hof (by omega)
            have hS := (hS0.trans hof).mono (show _ ≤ NN by omega)
            clear hof hS0 hNN
            rename World => wr
            obtain ⟨raws, hro, hra⟩ := hown
            have hrl := hide hra.len.symm
            go_wp2_with (at_builtin; refine wpList_pushAt (α := RawP) _ rfl (.tmp 39) (.tmp 41) _ rfl w.heap.size 91 i0 _ 32 Tryz.underlying29 hi hz h1 h2 rfl A _ c raws rfl ?c0 (by exact hro.s (N := NN) (by repeat (first | exact hS | refine SOut.set ?_ hbW (Nat.le_refl _) _ | refine SOut.al ?_ _)) hbw) 0 ⟨_, 0, none⟩ 1 1 [⟨A', pts.length, c', f⟩] rfl rfl (by exact sl_oneAt _ 0 [.slice A' pts.length c', .bool f] _ _ _ (by first | rfl | simp [heap_set]) (Nat.zero_le _) rfl) ?c2 ?c3 ?c4 ?_)
            case c0 => exact hrl.out
            case c2 => rw [← hrl.out, hlen.out]; (try simp); omega
            case c3 => rw [← hrl.out, hlen.out]; simp [maxLen]; omega
            case c4 => have := (hS).size; first | omega | (simp; omega)
            intro A2 c2 w9 hO2 hG2
            have hSX := hG2.1.size
            have hOX := hO.keep (w' := ((wr.setCell ⟨W.heap.size, 1, none⟩ (.bool f)).alloc (.cells #[.slice A' pts.length c', .bool f] 91))) (gr_alloc (gr_set (World.grownBy.refl _ _) (.inl rfl) _) _) (fun g e => by cases e; exact Nat.lt_succ_self _)
            have hN := OwnN.push (x := (⟨pts, f⟩ : PathV)) (hra.sout (w' := ((wr.setCell ⟨W.heap.size, 1, none⟩ (.bool f)).alloc (.cells #[.slice A' pts.length c', .bool f] 91))) (N := NN) (by repeat (first | exact hS | refine SOut.set ?_ hbW (Nat.le_refl _) _ | refine SOut.al ?_ _)) hbw) hO2 hG2 ⟨⟨rfl, rfl, hOX.cap, hOX.sl.mono (by omega), fun g hg => by have := hOX.blk_lt hg; omega⟩, fun g hg e => by have := hro.blk_lt e; have := hOX.blk_lt hg; omega⟩
            have hSY : SOut b NN w w9 := SOut.new (ho.trans (w2 := ((wr.setCell ⟨W.heap.size, 1, none⟩ (.bool f)).alloc (.cells #[.slice A' pts.length c', .bool f] 91))) (N' := NN) (by repeat (first | exact hS | refine SOut.set ?_ hbW (Nat.le_refl _) _ | refine SOut.al ?_ _))) hbw hG2.1 (fun g hg => (hro.blk_lt hg).1)
            go_wp2
            go_roundw
            case rel => exact ⟨k + 1, _, A2, c2, by omega, by go_num, by simp [hrl.out], hN, by simp [Hid, hlen.out], (by
              intro p hp
              rcases List.mem_append.1 hp with hp | hp
              · exact hpl.out p hp
              · simp only [List.mem_singleton] at hp; subst hp; exact hp4.out), hSY.mono (by simp; omega)⟩
            case measure => simp [intOf]; omega
          · have hS := hS0.mono (show _ ≤ NN by omega)
            clear hNN
            obtain ⟨raws, hro, hra⟩ := hown
            have hrl := hide hra.len.symm
            go_wp2_with (at_builtin; refine wpList_pushAt (α := RawP) _ rfl (.tmp 39) (.tmp 41) _ rfl w.heap.size 91 i0 _ 32 Tryz.underlying29 hi hz h1 h2 rfl A _ c raws rfl ?c0 (by exact hro.s (N := NN) (by repeat (first | exact hS | refine SOut.set ?_ hbW (Nat.le_refl _) _ | refine SOut.al ?_ _)) hbw) 0 ⟨_, 0, none⟩ 1 1 [⟨A', pts.length, c', false⟩] rfl rfl (by exact sl_oneAt _ 0 [.slice A' pts.length c', .bool false] _ _ _ (by first | rfl | simp [heap_set]) (Nat.zero_le _) rfl) ?c2 ?c3 ?c4 ?_)
            case c0 => exact hrl.out
            case c2 => rw [← hrl.out, hlen.out]; (try simp); omega
            case c3 => rw [← hrl.out, hlen.out]; simp [maxLen]; omega
            case c4 => have := (hS).size; first | omega | (simp; omega)
            intro A2 c2 w9 hO2 hG2
            have hSX := hG2.1.size
            have hOX := hO.keep (w' := ((wr.setCell ⟨W.heap.size, 1, none⟩ (.bool false)).alloc (.cells #[.slice A' pts.length c', .bool false] 91))) (gr_alloc (gr_set (World.grownBy.refl _ _) (.inl rfl) _) _) (fun g e => by cases e; exact Nat.lt_succ_self _)
            have hN := OwnN.push (x := (⟨pts, false⟩ : PathV)) (hra.sout (w' := ((wr.setCell ⟨W.heap.size, 1, none⟩ (.bool false)).alloc (.cells #[.slice A' pts.length c', .bool false] 91))) (N := NN) (by repeat (first | exact hS | refine SOut.set ?_ hbW (Nat.le_refl _) _ | refine SOut.al ?_ _)) hbw) hO2 hG2 ⟨⟨rfl, rfl, hOX.cap, hOX.sl.mono (by omega), fun g hg => by have := hOX.blk_lt hg; omega⟩, fun g hg e => by have := hro.blk_lt e; have := hOX.blk_lt hg; omega⟩
            have hSY : SOut b NN w w9 := SOut.new (ho.trans (w2 := ((wr.setCell ⟨W.heap.size, 1, none⟩ (.bool false)).alloc (.cells #[.slice A' pts.length c', .bool false] 91))) (N' := NN) (by repeat (first | exact hS | refine SOut.set ?_ hbW (Nat.le_refl _) _ | refine SOut.al ?_ _))) hbw hG2.1 (fun g hg => (hro.blk_lt hg).1)
            go_wp2
            go_roundw
            case rel => exact ⟨k + 1, _, A2, c2, by omega, by go_num, by simp [hrl.out], hN, by simp [Hid, hlen.out], (by
              intro p hp
              rcases List.mem_append.1 hp with hp | hp
              · exact hpl.out p hp
              · simp only [List.mem_singleton] at hp; subst hp; exact hp4.out), hSY.mono (by simp; omega)⟩
            case measure => simp [intOf]; omega
    · have hll : l.length ≤ most := by have := hlen.out; omega
      by_cases h0 : 0 < l.length
      · go_wp2_with fail
        refine (flip_any b _ _ _ ho.2 (by omega) (by omega)).mono ?_
        rintro e w3 ⟨f, rfl, ho3⟩
        have hoA := ho.trans ho3
        have hown := hown.s ho3 hbw
        cases f
        · go_wp2_with fail
          go_ret
          exact ⟨l, A, c, rfl, hown.sl, hll, hpl.out, hoA.mono (by omega)⟩
        · obtain ⟨raws, hro, hra⟩ := hown
          have hrl := hide hra.len.symm
          obtain ⟨g, rfl, hg0, hg1⟩ := hro.shape (by rw [← hrl.out]; exact h0)
          go_wp2_with fail
          refine (next_any b _ _ _ hoA.2 (by omega) (by omega)).mono ?_
          rintro e w4 ⟨i, rfl, ⟨hi0, hi1⟩, ho4⟩
          obtain ⟨i, rfl⟩ := Int.eq_ofNat_of_zero_le hi0
          have hoB := hoA.trans ho4
          go_wp2_with fail
          refine (flip_any b _ _ _ hoB.2 (by omega) (by omega)).mono ?_
          rintro e w5 ⟨f, rfl, ho5⟩
          have hoC := hoB.trans ho5
          go_wp2_with fail
          refine (odd_any b _ _ _ _ (hoC.al _).2 (by omega) (by omega) (by omega) (by omega)).mono ?_
          rintro e w6 ⟨r, rfl, _, ho6⟩
          have hs62 := (sl_oneAt w5 w5.heap.size [.int .i64 1, .int .i64 0] 28 (⟨1, 0⟩ : Pt) _ rfl (Nat.le_refl _) rfl).gr ho6.1 (fun g e => by cases e; have := hoC.size; omega)
          have hoD := (hoC.al _).trans ho6
          have hz5 := hoC.size
          have hz4 := (ho4.trans ho5).size
          have hz6 := ho6.size
          simp at hz6
          go_wp2_with fail
          refine (next_any b _ 3 _ ((hoD.al _).al _).2 (by omega) (by omega)).mono ?_
          rintro e w7 ⟨j, rfl, ⟨hj0, hj1⟩, ho7⟩
          have hoE := ((hoD.al (.cells #[.int .i64 1, .int .i64 0, .int .i64 r, .int .i64 0] 28)).al (.cells #[.slice none 0 0, .slice (some ⟨w5.heap.size, 0, none⟩) 1 1, .slice (some ⟨w6.heap.size, 0, none⟩) 2 2] 79)).trans ho7
          have hs67 := ((sl_lit w6 w6.heap.size [.int .i64 1, .int .i64 0, .int .i64 r, .int .i64 0] 28 [(⟨1, 0⟩ : Pt), ⟨r, 0⟩] (Nat.le_refl _) (by simp [maxLen]) ⟨[.int .i64 1, .int .i64 0], _, rfl, rfl, [.int .i64 r, .int .i64 0], [], rfl, rfl, rfl⟩).pure (gr_alloc (World.grownBy.refl _ _) _)).gr ho7.1 (fun g e => by cases e; omega)
          replace hs62 := ((hs62.pure (gr_alloc (World.grownBy.refl _ _) (.cells #[.int .i64 1, .int .i64 0, .int .i64 r, .int .i64 0] 28))).pure (gr_alloc (World.grownBy.refl _ _) (.cells #[.slice none 0 0, .slice (some ⟨w5.heap.size, 0, none⟩) 1 1, .slice (some ⟨w6.heap.size, 0, none⟩) 2 2] 79))).gr ho7.1 (fun g e => by cases e; omega)
          have d0 := ((Cell.new (w6.alloc (.cells #[.int .i64 1, .int .i64 0, .int .i64 r, .int .i64 0] 28)) [.slice none 0 0, .slice (some ⟨w5.heap.size, 0, none⟩) 1 1, .slice (some ⟨w6.heap.size, 0, none⟩) 2 2] 79 0 _ rfl (w6.heap.size + 1) (by simp)).gr ho7.1 (by simp; omega)).1
          have d1 := ((Cell.new (w6.alloc (.cells #[.int .i64 1, .int .i64 0, .int .i64 r, .int .i64 0] 28)) [.slice none 0 0, .slice (some ⟨w5.heap.size, 0, none⟩) 1 1, .slice (some ⟨w6.heap.size, 0, none⟩) 2 2] 79 1 _ rfl (w6.heap.size + 1) (by simp)).gr ho7.1 (by simp; omega)).1
          have d2 := ((Cell.new (w6.alloc (.cells #[.int .i64 1, .int .i64 0, .int .i64 r, .int .i64 0] 28)) [.slice none 0 0, .slice (some ⟨w5.heap.size, 0, none⟩) 1 1, .slice (some ⟨w6.heap.size, 0, none⟩) 2 2] 79 2 _ rfl (w6.heap.size + 1) (by simp)).gr ho7.1 (by simp; omega)).1
          have hz7 := ho7.size
          simp at hz7
          have ho37 : SOut b _ w3 w7 := ((((ho4.trans ho5).al _).trans ho6).al (.cells #[.int .i64 1, .int .i64 0, .int .i64 r, .int .i64 0] 28)).al (.cells #[.slice none 0 0, .slice (some ⟨w5.heap.size, 0, none⟩) 1 1, .slice (some ⟨w6.heap.size, 0, none⟩) 2 2] 79) |>.trans ho7
          have hro7 := hro.s ho37 hbw
          have hra7 := hra.sout ho37 hbw
          have hir : i < raws.length := by have := hrl.out; omega
          obtain ⟨c0, c1⟩ := hro7.cell_rawp hir
          have f0 := hro7.frozen (i * 2)
          have f1 := hro7.frozen (i * 2 + 1)
          clear hro hra ho4 ho5 ho6 ho7 hoA hoB hoC hoD ho37 ho3 hown
          have hgs' : ∀ A2 n2 c2, ((w7.setCell ⟨g, i * 2 + 1, none⟩ (.bool f)).setCell ⟨g, i * 2, none⟩ (.slice A2 n2 c2)).heap.size = w7.heap.size := fun _ _ _ => by rw [heap_set, heap_set]
          have hgs' := hide hgs'
          have hne62 : g ≠ w5.heap.size := by omega
          have hne67 : g ≠ w6.heap.size := by omega
          have hne62 := hide hne62
          have hne67 := hide hne67
          obtain rfl | rfl | rfl : j = 0 ∨ j = 1 ∨ j = 2 := by omega
          · go_wp2_with fail
            go_ret
            have hgs := gr_set (r := some g) (p := ⟨g, i * 2, none⟩) (gr_set (r := some g) (p := ⟨g, i * 2 + 1, none⟩) (World.grownBy.refl w7 _) (.inl rfl) (.bool f)) (.inl rfl) (.slice none (([] : List Pt)).length 0)
            have hfin : Sl _ w.heap.size (some ⟨g, 0, none⟩) (l.set i ⟨([] : List Pt), f⟩) := OwnN.sl ⟨_, hro7.set_rawp hir none (([] : List Pt)).length 0 f, ((hra7.grB hgs rfl).set_ i ⟨⟨rfl, rfl, (by simp), Sl.nil, fun g' hg' => ?b1⟩, fun g' hg' e => ?b2⟩)⟩
            exact ⟨l.set i ⟨([] : List Pt), f⟩, _, c, by rw [List.length_set]; exact rfl, hfin, by rw [List.length_set]; exact hll, fun p hp => by
              rcases List.mem_or_eq_of_mem_set hp with hp | hp
              · exact hpl.out p hp
              · rw [hp]; simp, ((hoE.set hbw (p := ⟨g, i * 2 + 1, none⟩) hg0 _).set hbw (p := ⟨g, i * 2, none⟩) hg0 _).mono (by omega)⟩
            case b1 => cases hg'
            case b2 => cases hg'
          · go_wp2_with fail
            go_ret
            have hgs := gr_set (r := some g) (p := ⟨g, i * 2, none⟩) (gr_set (r := some g) (p := ⟨g, i * 2 + 1, none⟩) (World.grownBy.refl w7 _) (.inl rfl) (.bool f)) (.inl rfl) (.slice (some ⟨w5.heap.size, 0, none⟩) ([(⟨1, 0⟩ : Pt)]).length 1)
            have hfin : Sl _ w.heap.size (some ⟨g, 0, none⟩) (l.set i ⟨[(⟨1, 0⟩ : Pt)], f⟩) := OwnN.sl ⟨_, hro7.set_rawp hir (some ⟨w5.heap.size, 0, none⟩) ([(⟨1, 0⟩ : Pt)]).length 1 f, ((hra7.grB hgs rfl).set_ i ⟨⟨rfl, rfl, (by simp), (hs62.mono (by omega)).ne hgs (fun g' e => by cases e; simpa using hne62.out), fun g' hg' => ?b1⟩, fun g' hg' e => ?b2⟩)⟩
            exact ⟨l.set i ⟨[(⟨1, 0⟩ : Pt)], f⟩, _, c, by rw [List.length_set]; exact rfl, hfin, by rw [List.length_set]; exact hll, fun p hp => by
              rcases List.mem_or_eq_of_mem_set hp with hp | hp
              · exact hpl.out p hp
              · rw [hp]; simp, ((hoE.set hbw (p := ⟨g, i * 2 + 1, none⟩) hg0 _).set hbw (p := ⟨g, i * 2, none⟩) hg0 _).mono (by omega)⟩
            case b1 => cases hg'; rw [hgs'.out]; exact ⟨by simp; omega, by simp; omega⟩
            case b2 => cases hg'; injection e with e; exact hne62.out e
          · go_wp2_with fail
            go_ret
            have hgs := gr_set (r := some g) (p := ⟨g, i * 2, none⟩) (gr_set (r := some g) (p := ⟨g, i * 2 + 1, none⟩) (World.grownBy.refl w7 _) (.inl rfl) (.bool f)) (.inl rfl) (.slice (some ⟨w6.heap.size, 0, none⟩) ([(⟨1, 0⟩ : Pt), ⟨r, 0⟩]).length 2)
            have hfin : Sl _ w.heap.size (some ⟨g, 0, none⟩) (l.set i ⟨[(⟨1, 0⟩ : Pt), ⟨r, 0⟩], f⟩) := OwnN.sl ⟨_, hro7.set_rawp hir (some ⟨w6.heap.size, 0, none⟩) ([(⟨1, 0⟩ : Pt), ⟨r, 0⟩]).length 2 f, ((hra7.grB hgs rfl).set_ i ⟨⟨rfl, rfl, (by simp), (hs67.mono (by omega)).ne hgs (fun g' e => by cases e; simpa using hne67.out), fun g' hg' => ?b1⟩, fun g' hg' e => ?b2⟩)⟩
            exact ⟨l.set i ⟨[(⟨1, 0⟩ : Pt), ⟨r, 0⟩], f⟩, _, c, by rw [List.length_set]; exact rfl, hfin, by rw [List.length_set]; exact hll, fun p hp => by
              rcases List.mem_or_eq_of_mem_set hp with hp | hp
              · exact hpl.out p hp
              · rw [hp]; simp, ((hoE.set hbw (p := ⟨g, i * 2 + 1, none⟩) hg0 _).set hbw (p := ⟨g, i * 2, none⟩) hg0 _).mono (by omega)⟩
            case b1 => cases hg'; rw [hgs'.out]; exact ⟨by simp; omega, by simp; omega⟩
            case b2 => cases hg'; injection e with e; exact hne67.out e
      · go_wp2_with fail
        go_ret
        exact ⟨l, A, c, rfl, hown.sl, hll, hpl.out, ho.mono (by omega)⟩

end Go.Proofs.YtgcfaamgilbjdaaGreatDoor

namespace Go.Proofs.YtgcfaamgilbjdaaGreatDoor
open Go.RowKit Go.Bl

def SIntsP (b : Nat) (N : Int) (n : Nat) (w : World) (e : Ending) (w' : World) : Prop := ∃ (l : List Int) (A : Option Addr) (c : Nat), e = .returned (.slice A l.length c) ∧ Own w' w.heap.size 3 A c l ∧ l.length = n ∧ l.Perm ((List.range n).map Int.ofNat) ∧ SOut b N w w'

set_option maxHeartbeats 2000000 in
set_option maxRecDepth 100000 in
theorem orderP_any (b : Nat) (N : Int) (n : Nat) (w : World) (hs : Strm w b N) (hN : N ≤ 1000000000) (hn : n ≤ 1000000) :
    Calls Tryz.prog 6 #[.pointer (some ⟨b, 0, none⟩), .int .i64 n] w (SIntsP b (N + n) n w) := by
  have hbw := hs.lt
  obtain ⟨i0, hi, hz, h1, h2⟩ := info_parts info_int
  go_enter Tryz.func6, Tryz.ntmps6
  go_wp2_with fail
  go_loopw [5, 10] (fun o i wr => ∃ (k : Nat) (l : List Int) (A' : Option Addr) (c' : Nat), k ≤ n ∧ i = .int .i64 k ∧ o = .slice A' l.length c' ∧ Hid (l.length = k) ∧ Hid (l = (List.range k).map Int.ofNat) ∧ Own wr w.heap.size 3 A' c' l ∧ w.grownBy wr none) (fun _ i _ => n - (intOf i).toNat)
  case atStart => exact ⟨0, [], none, 0, Nat.zero_le _, rfl, rfl, rfl, rfl, Own.nil _ _ _, World.grownBy.refl _ _⟩
  case round =>
    obtain ⟨k, l, A', c', hk, rfl, rfl, hlk, hle, hown, hg⟩ := hrel
    by_cases hlt : k < n
    · go_wp2_with (at_builtin; refine wpList_push (α := Int) _ rfl (.tmp 13) (.tmp 15) _ rfl w.heap.size 3 i0 _ 8 Tryz.underlying22 hi hz h1 h2 rfl _ _ _ l rfl ?c1 (by exact (hown.pure (by repeat (first | exact World.grownBy.refl _ _ | assumption | refine gr_alloc ?_ _ | refine gr_drewN ?_ _ | refine gr_drew ?_)))) 0 ⟨_, 0, none⟩ 1 1 [(k : Int)] rfl rfl (by exact sl_int1 _ _ _ _ (by first | rfl | simp)) ?c2 ?c3 ?c4 ?_)
      case c1 => rfl
      case c2 => rw [hlk.out]; simp; omega
      case c3 => rw [hlk.out]; simp [maxLen]; omega
      case c4 => simp; have := hg.size; omega
      intro A2 c2 w2 hown2 hup2
      go_wp2
      (go_roundw; (case rel => exact ⟨k + 1, _, A2, c2, by omega, by go_num, by simp, by simp [Hid, hlk.out], by rw [Hid, hle.out, List.range_succ, List.map_append]; rfl, hown2, hup2.gr (Nat.le_refl _) (gr_alloc hg _)⟩); (case measure => simp [intOf]; omega))
    · have hkn : k = n := by omega
      have hln : Hid (l.length = n) := by rw [Hid, hlk.out, hkn]
      have hle2 : Hid (l = (List.range n).map Int.ofNat) := by rw [Hid, hle.out, hkn]
      have hs2 := hs.pure hg
      have hgs : SOut b N w wr := ⟨gr_any hg, hs2⟩
      clear hkn hlk hs2 hle
      rename World => wq
      go_wp2_with fail
      by_cases h0 : n = 0
      · subst h0
        refine wp_loop_once ?_
        go_wp2_with fail
        go_ret
        exact ⟨l, A', c', rfl, hown, hln.out, (by rw [hle2.out]), hgs.mono (by simp)⟩
      · obtain ⟨g, rfl, hgl, hgs2⟩ := hown.shape (by rw [hln.out]; omega)
        go_loopw [7] (fun i wr => ∃ (j : Nat) (m : List Int), i = .int .i64 j ∧ j + 1 ≤ n ∧ Hid (m.length = n) ∧ Hid (m.Perm ((List.range n).map Int.ofNat)) ∧ Own wr w.heap.size 3 (some ⟨g, 0, none⟩) c' m ∧ SOut b (N + (n - 1 - j)) w wr) (fun i _ => (intOf i).toNat)
        case atStart => exact ⟨n - 1, l, by congr 1; omega, by omega, hln, (by rw [Hid, hle2.out]), hown, hgs.mono (by omega)⟩
        case round =>
          obtain ⟨j, m, rfl, hj, hml, hpm, hown, hS⟩ := hrel
          by_cases hj0 : 0 < j
          · go_wp2_with fail
            refine (next_any b _ _ _ hS.2 (by omega) (by omega)).mono ?_
            rintro e w2 ⟨r, rfl, ⟨hr0, hr1⟩, ho2⟩
            obtain ⟨r, rfl⟩ := Int.eq_ofNat_of_zero_le hr0
            have hown2 := hown.s ho2 hbw
            have hjm : j < m.length := by rw [hml.out]; omega
            have hrm : r < m.length := by rw [hml.out]; omega
            have hjl : j < l.length := by rw [hln.out]; omega
            have hrl : r < l.length := by rw [hln.out]; omega
            have c0 := hown2.cell_int hjm
            have c1 := hown2.cell_int hrm
            have f0 := hown2.frozen j
            have f1 := hown2.frozen r
            have hset := (hown2.set_int j m[r]).set_int r m[j]
            have hset := hide hset
            have hS2 := hS.trans ho2
            have hpm2 : Hid (((m.set j m[r]).set r m[j]).Perm ((List.range n).map Int.ofNat)) := (List.set_set_perm hjm hrm).trans hpm.out
            have hml2 : Hid (((m.set j m[r]).set r m[j]).length = n) := by simp [Hid, hml.out]
            by_cases hrj : r = j
            · subst hrj
              go_wp2_with fail
              go_region
              all_goals
                go_wp2
                go_roundw
                case rel => exact ⟨r - 1, _, by congr 1; omega, by omega, hml2, hpm2, hset.out.pure (gr_drew (World.grownBy.refl _ _)), ((hS2.set hbw hgl _).set hbw hgl _).drew.mono (by omega)⟩
                case measure => simp [intOf]; omega
            · have hjr : j ≠ r := fun e => hrj e.symm
              go_wp2_with fail
              go_region
              all_goals
                go_wp2
                go_roundw
                case rel => exact ⟨j - 1, _, by congr 1; omega, by omega, hml2, hpm2, hset.out.pure (gr_drew (World.grownBy.refl _ _)), ((hS2.set hbw hgl _).set hbw hgl _).drew.mono (by omega)⟩
                case measure => simp [intOf]; omega
          · have hj2 : j = 0 := by omega
            subst hj2
            go_wp2_with fail
            go_ret
            exact ⟨m, _, c', by rw [hml.out, ← hln.out]; exact rfl, hown, hml.out, hpm.out, hS.mono (by omega)⟩

end Go.Proofs.YtgcfaamgilbjdaaGreatDoor

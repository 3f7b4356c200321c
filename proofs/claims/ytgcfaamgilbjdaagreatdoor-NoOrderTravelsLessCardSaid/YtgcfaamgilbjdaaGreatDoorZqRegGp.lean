/- Contracts of functions that this seat's laws reach, each: what one call returns and what it leaves in memory; no condition beyond each theorem's own hypotheses. -/
import Derived.Test.YtgcfaamgilbjdaaGreatDoorZqRegB
import Derived.Test.YtgcfaamgilbjdaaGreatDoorZqPathE
import Derived.Test.YtgcfaamgilbjdaaGreatDoorZqMapPt
set_option linter.unusedVariables false
set_option linter.unusedSimpArgs false
namespace Go.Bl
open Go

theorem far_bd {p : Pt} (h : farP p = false) : bdP p := by
  unfold bdP
  simp [farP, outB] at h
  omega

def twiceB (r : List Pt) : Bool := (List.range r.length).any fun k => decide (cor r k ∈ r.take k)
/-- what is wrong with a ring -/
def ringF (r : List Pt) : Int := if r.length < 3 then 3 else if 500 < r.length then 2 else if r.any farP then 1 else if twiceB r then 6 else sidesF r

end Go.Bl
namespace Go.Proofs.YtgcfaamgilbjdaaGreatDoor
open Go Go.RowKit Go.Bl Go.Maps Go.WideShapes

set_option maxHeartbeats 400000 in
theorem indexFarR_any (A : Option Addr) (c : Nat) (l : List Pt) (w : World) (hl : Sl w 0 A l) :
    Calls Tryz.prog 75 #[.slice A l.length c, .func (.func 37) #[] #[]] w fun e w' => ∃ r : Int, e = .returned (.int .i64 r) ∧ decide (0 ≤ r) = l.any farP ∧ w.grownBy w' none := by
  have hm := hl.1
  unfold maxLen at hm
  go_enter Tryz.func75, Tryz.ntmps75
  go_wp2
  go_loopw [8] (fun i wr => ∃ k : Nat, k ≤ l.length ∧ i = .int .i64 k ∧ w.grownBy wr none ∧ Hid ((l.take k).any farP = false)) (fun i _ => l.length - (intOf i).toNat)
  case atStart => exact ⟨0, Nat.zero_le _, rfl, World.grownBy.refl _ _, by simp [Hid]⟩
  case round =>
    obtain ⟨k, hk, rfl, hg, hall⟩ := hrel
    by_cases hlt : k < l.length
    · obtain ⟨g, o, cx, rfl, hb0, hb1, rfl, hc⟩ := (hl.pure hg).at_ (by decide) hlt
      have c0 : wr.cell? ⟨g, o + k * 2, none⟩ = some (.int .i64 l[k].x) := hc 0 _ rfl
      have c1 : wr.cell? ⟨g, o + k * 2 + 1, none⟩ = some (.int .i64 l[k].y) := hc 1 _ rfl
      clear hc
      have HS := hide (any_snoc hlt)
      have HA : Hid (farP l[k] = true → l.any farP = true) := any_at hlt
      go_wp2_with fail
      refine (isFar_any l[k] _).mono ?_
      rintro e w' ⟨rfl, hg'⟩
      rcases hf : farP l[k] with _ | _
      · go_wp2_with fail
        go_roundw
        case rel => exact ⟨k + 1, by omega, by go_num, gr_trans hg hg', by simp only [Hid]; rw [HS.out, hall.out, hf]; rfl⟩
        case measure => simp [intOf]; omega
      · have HB := hide (HA.out hf)
        go_wp2_with fail
        go_ret
        exact ⟨k, rfl, by rw [HB.out]; simp, gr_trans hg hg'⟩
    · have HB : Hid (l.any farP = false) := by have := hall.out; rwa [List.take_of_length_le (by omega)] at this
      go_wp2
      go_ret
      exact ⟨-1, rfl, by rw [HB.out]; rfl, hg⟩

set_option maxHeartbeats 400000 in
theorem containsFarR_any (A : Option Addr) (c : Nat) (l : List Pt) (w : World) (hl : Sl w 0 A l) :
    Calls Tryz.prog 65 #[.slice A l.length c, .func (.func 37) #[] #[]] w fun e w' => e = .returned (.bool (l.any farP)) ∧ w.grownBy w' none := by
  go_enter Tryz.func65, Tryz.ntmps65
  go_wp2_with fail
  refine (indexFarR_any _ _ _ _ hl).mono ?_
  rintro e w1 ⟨r, rfl, hr, hg⟩
  replace hr := hide hr
  go_wp2_with fail
  go_ret
  exact ⟨ret_bool hr.out, hg⟩

theorem i64_wf {n : Int} (h : -9223372036854775808 ≤ n ∧ n ≤ 9223372036854775807) : (Lit.int .i64 n).wf = true := by
  unfold Lit.wf
  simp [IntKind.wrap, i64_in h]
  exact h

theorem okP_bd {p : Pt} (h : bdP p) : okP p := by
  unfold bdP at h
  exact ⟨i64_wf (by omega), i64_wf (by omega)⟩

theorem setP_nil : setP [] = fun _ => none := by funext z; simp [setP]

set_option maxHeartbeats 4000000 in
set_option maxRecDepth 100000 in
theorem checkRing_any (A : Option Addr) (c : Nat) (r : List Pt) (w : World) (hl : Sl w 0 A r) :
    Calls Tryz.prog 53 #[.slice A r.length c] w fun e w' => e = .returned (.int .i64 (ringF r)) ∧ w.grownBy w' none := by
  have hm := hl.1
  unfold maxLen at hm
  have hV : Hid (ringF r = if r.length < 3 then 3 else if 500 < r.length then 2 else if r.any farP then 1 else if twiceB r then 6 else sidesF r) := rfl
  by_cases h3 : r.length < 3
  · have hF := hide (hV.out.trans (if_pos h3))
    clear hV
    go_enter Tryz.func53, Tryz.ntmps53
    go_wp2_with fail
    go_ret
    exact ⟨ret_int hF.out.symm, (by repeat (first | exact World.grownBy.refl _ _ | assumption | refine gr_alloc ?_ _ | (apply gr_tail; assumption) | refine gr_drewN ?_ _ | refine gr_drew ?_))⟩
  by_cases h5 : 500 < r.length
  · have hF := hide ((hV.out.trans (if_neg h3)).trans (if_pos h5))
    clear hV
    go_enter Tryz.func53, Tryz.ntmps53
    go_wp2_with fail
    go_ret
    exact ⟨ret_int hF.out.symm, (by repeat (first | exact World.grownBy.refl _ _ | assumption | refine gr_alloc ?_ _ | (apply gr_tail; assumption) | refine gr_drewN ?_ _ | refine gr_drew ?_))⟩
  rw [Hid, if_neg h3, if_neg h5] at hV
  replace hV := hide hV
  have hI := hide (containsFarR_any A c r w hl)
  rcases hfar : r.any farP with _ | _
  · rw [hfar] at hI hV
    rw [Hid, if_neg (by simp)] at hV
    replace hV := hide hV
    have hbd : Hid (∀ p ∈ r, bdP p) := fun p hp => far_bd (by
      have := List.any_eq_false.1 hfar p hp
      simpa using this)
    clear hfar
    go_enter Tryz.func53, Tryz.ntmps53
    go_wp2_with fail
    refine hI.out.mono ?_
    rintro e w1 ⟨rfl, hg1⟩
    have hmk := run_makeMap (P := Tryz.prog) 127 w1
    have hM0 := MapOf.made ptM w1
    rw [← setP_nil] at hM0
    have hgm := gr_alloc (World.grownBy.refl w1 none) (.map #[] 0)
    have hgw := gr_trans hg1 hgm
    have hsz1 := hg1.size
    go_wp2_with fail
    obtain ⟨gm, hgmE⟩ : ∃ g, g = w1.heap.size := ⟨_, rfl⟩
    obtain ⟨w2, hw2⟩ : ∃ x, x = w1.alloc (.map #[] 0) := ⟨_, rfl⟩
    rw [← hgmE, ← hw2] at hM0
    rw [← hw2] at hgw
    rw [← hgmE, ← hw2]
    have hgmw : w.heap.size ≤ gm := by omega
    clear hmk hgm hw2 hgmE hg1 hI
    go_loopw [17] (fun i wr => ∃ k : Nat, k ≤ r.length ∧ i = .int .i64 k ∧ MapOf ptM wr gm k (setP (r.take k)) ∧ w.grownBy wr none ∧ Hid (∀ i, i < k → decide (cor r i ∈ r.take i) = false)) (fun i _ => r.length - (intOf i).toNat)
    case atStart => exact ⟨0, Nat.zero_le _, rfl, hM0, hgw, fun i h => by omega⟩
    case round =>
      clear hM0 hgw
      obtain ⟨k, hk, rfl, hM, hg, hall⟩ := hrel
      by_cases hlt : k < r.length
      · obtain ⟨g, o, cx, rfl, _, hb1, rfl, hc⟩ := (hl.pure hg).at_ (by decide) hlt
        have c0 : wr.cell? ⟨g, o + k * 2, none⟩ = some (.int .i64 r[k].x) := hc 0 _ rfl
        have c1 : wr.cell? ⟨g, o + k * 2 + 1, none⟩ = some (.int .i64 r[k].y) := hc 1 _ rfl
        clear hc
        have hok := hide (okP_bd (hbd.out _ (List.getElem_mem hlt)))
        have hck := hide (cor_lt hlt)
        have htk := hide (take_snoc hlt)
        have hTw : Hid (decide (r[k] ∈ r.take k) = true → ringF r = 6) := fun h => by
          rw [hV.out, if_pos]
          unfold twiceB
          exact any_yes hlt (by rw [hck.out]; exact h)
        generalize r[k] = p at *
        go_upto_region 11 with fail
        obtain ⟨w5, hw5⟩ : ∃ x, x = (wr).alloc (.cells [.int .i64 p.x, .int .i64 p.y].toArray 28) := ⟨_, rfl⟩
        have hg5 : (wr).grownBy w5 none := by rw [hw5]; exact gr_alloc (World.grownBy.refl _ _) _
        have hb5 : Box w5 (wr).heap.size 28 [.int .i64 p.x, .int .i64 p.y] := by rw [hw5]; exact Box.new _ _ _
        have hxs5 := hb5.lt
        rw [← hw5]
        clear hw5
        obtain ⟨x5, hx5⟩ : ∃ x, x = (wr).heap.size := ⟨_, rfl⟩
        rw [← hx5] at hb5 hxs5 ⊢
        have hxl5 : (wr).heap.size ≤ x5 := by omega
        clear hx5
        obtain ⟨y0, -⟩ := hb5.c 0 rfl
        obtain ⟨y1, -⟩ := hb5.c 1 rfl
        replace hM := hM.kept hg5 (by simp)
        replace hg := gr_trans hg hg5
        clear c0 c1 hg5
        have hk2 : k < 500 := by omega
        rcases hbb : decide (p ∈ r.take k) with _ | _
        · replace hbb := hide hbb
          go_wp2_with (first | (at_lookup; refine wpList_lookup_P _ rfl _ _ rfl gm _ (r.take k) rfl hM p rfl hok.out false hbb.out ?_) | (at_mapUpdate; refine wpList_store_P _ rfl _ _ _ rfl gm _ (r.take k) rfl hM (by simp [maxLen]; omega) p rfl rfl hok.out ?_; intro w4 hM4 hg4))
          have hg4' : w.grownBy w4 none := gr_row hg hg4 (fun x e => by injection e; omega)
          (go_roundw; (case rel => exact ⟨k + 1, by omega, by go_num, by rw [htk.out]; exact hM4, hg4', fun i hi => by
                      by_cases e : i < k
                      · exact hall.out i e
                      · rw [show i = k by omega, hck.out]; exact hbb.out⟩); (case measure => simp [intOf]; omega))
        · have hF := hide (hTw.out hbb)
          replace hbb := hide hbb
          clear hTw
          go_wp2_with (at_lookup; refine wpList_lookup_P _ rfl _ _ rfl gm _ (r.take k) rfl hM p rfl hok.out true hbb.out ?_)
          go_ret
          exact ⟨ret_int hF.out.symm, hg⟩
      · have hF : Hid (ringF r = sidesF r) := by
          rw [Hid, hV.out, if_neg]
          unfold twiceB
          rw [any_no (fun i hi => hall.out i (by omega))]
          simp
        have hS := hide (sidesFault_any A c r wr (hl.pure hg) (by omega) (by omega) hbd.out)
        go_wp2_with fail
        refine hS.out.mono ?_
        rintro e w5 ⟨rfl, hg5⟩
        go_wp2_with fail
        go_ret
        exact ⟨ret_int hF.out.symm, gr_trans hg hg5⟩
  · rw [hfar] at hI hV
    have hF := hide (hV.out.trans (if_pos rfl))
    clear hV hfar
    go_enter Tryz.func53, Tryz.ntmps53
    go_wp2_with fail
    refine hI.out.mono ?_
    rintro e w1 ⟨rfl, hg1⟩
    go_wp2_with fail
    go_ret
    exact ⟨ret_int hF.out.symm, hg1⟩

end Go.Proofs.YtgcfaamgilbjdaaGreatDoor

namespace Go.Bl
open Go
/-- a side of a region -/
structure Sid where
  ring : Int
  a : Pt
  b : Pt
deriving DecidableEq

instance : Inhabited Sid := ⟨⟨0, default, default⟩⟩

instance : Enc Sid where
  sz := 5
  rep := fun _ _ p cs => cs = [.int .i64 p.ring, .int .i64 p.a.x, .int .i64 p.a.y, .int .i64 p.b.x, .int .i64 p.b.y]
  len := by rintro w lo x cs rfl; rfl
  one := by rintro w lo x cs rfl u hu; simp at hu; rcases hu with rfl | rfl | rfl | rfl | rfl <;> rfl
  keep := fun h _ => h
  mono := fun h _ => h

instance : Flat Sid := ⟨fun h => h, by decide⟩

def ringS (i : Nat) (r : List Pt) (k : Nat) : List Sid := (List.range k).map fun k => ⟨i, cor r k, cor r (k + 1)⟩

def sidesK (rs : List (List Pt)) (k : Nat) : List Sid := ((List.range k).map fun i => ringS i (rs.getD i []) (rs.getD i []).length).flatten

theorem ringS_snoc (i : Nat) (r : List Pt) (k : Nat) : ringS i r (k + 1) = ringS i r k ++ [⟨i, cor r k, cor r (k + 1)⟩] := by unfold ringS; rw [List.range_succ, List.map_append]; rfl

theorem ringS_len (i : Nat) (r : List Pt) (k : Nat) : (ringS i r k).length = k := by simp [ringS]

theorem sidesK_snoc {rs : List (List Pt)} {k : Nat} (h : k < rs.length) : sidesK rs (k + 1) = sidesK rs k ++ ringS k rs[k] rs[k].length := by
  unfold sidesK; rw [List.range_succ, List.map_append, List.flatten_append]; simp [List.getD, h]

theorem sidesK_len {rs : List (List Pt)} : ∀ {k : Nat}, k ≤ rs.length → (sidesK rs k).length = (flatK rs k).length
  | 0, _ => rfl
  | k + 1, h => by
    rw [sidesK_snoc (by omega), flatK_snoc (by omega), List.length_append, List.length_append, ringS_len, sidesK_len (by omega)]

theorem sl_inner' {α : Type} [Enc α] {w : World} {A : Option Addr} {ls : List (List α)} (h : Sl w 0 A ls) {k : Nat} (hk : k < ls.length) : ∃ g o B d, A = some ⟨g, o, none⟩ ∧ g < w.heap.size ∧ w.cell? ⟨g, o + k, none⟩ = some (.slice B ls[k].length d) ∧ ls[k].length ≤ d ∧ Sl w 0 B ls[k] := by
  obtain ⟨g, o, c1, e, _, hb, ⟨B, d, rfl, hle, hs⟩, hc⟩ := h.at_ Nat.one_pos hk
  have := hc 0 _ rfl
  rw [show Enc.sz (List α) = 1 from rfl, Nat.mul_one, Nat.add_zero] at this
  exact ⟨g, o, B, d, e, hb, this, hle, hs⟩

end Go.Bl
namespace Go.Proofs.YtgcfaamgilbjdaaGreatDoor
open Go Go.RowKit Go.Bl

theorem info_sid : (Tryz.prog.info? 117).map (fun i => (i.zero, i.size, i.bytes)) = some (some (.agg #[.int .i64 0, .int .i64 0, .int .i64 0, .int .i64 0, .int .i64 0]), 5, 40) := by kernel_rfl

set_option maxHeartbeats 8000000 in
set_option maxRecDepth 100000 in
theorem sidesG_any (A : Option Addr) (c : Nat) (rs : List (List Pt)) (w : World) (hl : Sl w 0 A rs) (hn : ∀ r ∈ rs, 0 < r.length) (hs : (flatK rs rs.length).length ≤ 100000) :
    Calls Tryz.prog 54 #[.slice A rs.length c] w fun e w' => ∃ A' c', e = .returned (.slice A' (sidesK rs rs.length).length c') ∧ Own w' w.heap.size 117 A' c' (sidesK rs rs.length) ∧ w.grownBy w' none := by
  have hm := hl.1
  unfold maxLen at hm
  replace hn := hide hn
  have hbd := hide fun k => Nat.le_trans (flatK_le rs k) hs
  go_enter Tryz.func54, Tryz.ntmps54
  go_wp2_with fail
  go_loopw [3, 10] (fun o i wr => ∃ (k : Nat) (A' : Option Addr) (c' : Nat), k ≤ rs.length ∧ i = .int .i64 k ∧ o = .slice A' (sidesK rs k).length c' ∧ Own wr w.heap.size 117 A' c' (sidesK rs k) ∧ w.grownBy wr none) (fun _ i _ => rs.length - (intOf i).toNat)
  case atStart => exact ⟨0, none, 0, Nat.zero_le _, rfl, rfl, Own.nil _ _ _, World.grownBy.refl _ _⟩
  case round =>
    obtain ⟨k, A', c', hk, rfl, rfl, hown, hg⟩ := hrel
    by_cases hlt : k < rs.length
    · obtain ⟨g, o, Bk, dk, rfl, hb1, c0, -, hsl⟩ := sl_inner' hl hlt
      replace c0 := hg.k c0
      have hrk := hn.out _ (List.getElem_mem hlt)
      have hK1 := hide (sidesK_snoc hlt)
      have hle : (sidesK rs k).length + rs[k].length ≤ 100000 := by
        have h1 := hbd.out (k + 1)
        rw [flatK_snoc hlt, List.length_append, ← sidesK_len (by omega)] at h1
        exact h1
      obtain ⟨r, hr⟩ : ∃ x, x = rs[k] := ⟨_, rfl⟩
      rw [← hr] at c0 hsl hrk hK1 hle
      clear hr
      generalize hL : sidesK rs k = L at *
      clear hL
      have hrl : r.length ≤ 100000 := by omega
      go_wp2_with fail
      go_loopw [3, 17] (fun o i wr => ∃ (m : Nat) (A' : Option Addr) (c' : Nat), m ≤ r.length ∧ i = .int .i64 m ∧ o = .slice A' (L ++ ringS k r m).length c' ∧ Own wr w.heap.size 117 A' c' (L ++ ringS k r m) ∧ w.grownBy wr none) (fun _ i _ => r.length - (intOf i).toNat)
      case atStart => exact ⟨0, A', c', Nat.zero_le _, rfl, by simp [ringS], by simpa [ringS] using hown, hg⟩
      case round =>
        clear hown hg c0
        obtain ⟨m, A', c', hm2, rfl, rfl, hown, hg⟩ := hrel
        by_cases hml : m < r.length
        · obtain ⟨gr, or_, rfl, -, hbr, hcell⟩ := hsl.pt (by omega)
          obtain ⟨j1, hj1⟩ : ∃ j, j = (m + 1) % r.length := ⟨_, rfl⟩
          have hj1b : ((m : Int) + 1) % r.length = j1 := by rw [hj1]; simp
          have hj1l : j1 < r.length := by rw [hj1]; exact Nat.mod_lt _ (by omega)
          have q0 := hg.k (hcell m hml).1
          have q1 := hg.k (hcell m hml).2
          have s0 := hg.k (hcell j1 hj1l).1
          have s1 := hg.k (hcell j1 hj1l).2
          have e1 : cor r m = r[m] := cor_lt hml
          have e2 : cor r (m + 1) = r[j1] := by unfold cor; rw [← hj1]; simp [List.getD, hj1l]
          have hsn : Hid (L ++ ringS k r (m + 1) = (L ++ ringS k r m) ++ [⟨k, cor r m, cor r (m + 1)⟩]) := by rw [Hid, ringS_snoc, List.append_assoc]
          have hMl : (L ++ ringS k r m).length ≤ 100000 := by rw [List.length_append, ringS_len]; omega
          rw [← e1] at q0 q1
          rw [← e2] at s0 s1
          generalize cor r m = p at *
          generalize cor r (m + 1) = q at *
          replace hj1 := hide hj1
          clear e1 e2 hcell
          generalize hM : L ++ ringS k r m = M at *
          clear hM
          go_upto_region 8 with fail
          obtain ⟨w7, hw7⟩ : ∃ x, x = (wr).alloc (.cells [.int .i64 p.x, .int .i64 p.y].toArray 28) := ⟨_, rfl⟩
          have hg7 : (wr).grownBy w7 none := by rw [hw7]; exact gr_alloc (World.grownBy.refl _ _) _
          have hb7 : Box w7 (wr).heap.size 28 [.int .i64 p.x, .int .i64 p.y] := by rw [hw7]; exact Box.new _ _ _
          have hxs7 := hb7.lt
          rw [← hw7]
          clear hw7
          obtain ⟨x7, hx7⟩ : ∃ x, x = (wr).heap.size := ⟨_, rfl⟩
          rw [← hx7] at hb7 hxs7 ⊢
          have hxl7 : (wr).heap.size ≤ x7 := by omega
          clear hx7
          replace q0 := hg7.k q0
          replace q1 := hg7.k q1
          replace s0 := hg7.k s0
          replace s1 := hg7.k s1
          replace hg := gr_trans hg hg7
          replace hown := hown.pure hg7
          obtain ⟨y0, -⟩ := hb7.c 0 rfl
          obtain ⟨y1, -⟩ := hb7.c 1 rfl
          clear hg7 q0 q1
          refine wp_region_tree (fun wx => w7.grownBy wx none) [2, 2, 1, 2, 2, 2, 2, 2, 2, 2, 1, 2, 0, 0, 2] (.bl 0 (.bl 1 (.bl 2 (.bl 3 (.bl 4 (.bl 5 (.bl 6 (.bl 7 (.bl 8 (.bl 9 (.bl 10 (.bl 11 (.ef 12 (.ef 13 (.bl 14 .done))))))))))))))) (by kernel_rfl) (by kernel_rfl) (gr_drew (World.grownBy.refl _ _)) ?_
          obtain ⟨W1, hW1⟩ : ∃ x, x = (w7).drew := ⟨_, rfl⟩
          rw [← hW1]
          have hgW1 : (w7).grownBy W1 none := by rw [hW1]; exact gr_drew (World.grownBy.refl _ _)
          clear hW1
          replace hg := gr_trans hg hgW1
          replace hown := hown.pure hgW1
          refine tree_p rfl rfl rfl rfl _ rfl (by simp) (fun K hK => ?_)
          apply Exists.intro
          refine ⟨fun wq K' hK' => ?_, ?_⟩
          · go_wp2_with fail
            exact hK'
          go_simp
          refine hK _ ?_
          clear hK K
          refine tree_p rfl rfl rfl rfl _ rfl (by simp) (fun K hK => ?_)
          apply Exists.intro
          refine ⟨fun wq K' hK' => ?_, ?_⟩
          · go_wp2_with fail
            exact hK'
          go_simp
          refine hK _ ?_
          clear hK K
          refine tree_b rfl rfl rfl rfl _ rfl (by simp) (fun K hK => ?_)
          apply Exists.intro
          refine ⟨fun wq hq K' hK' => ?_, ?_⟩
          · have ss0 := hq.k s0
            have ss1 := hq.k s1
            have yy0 := hq.k y0
            have yy1 := hq.k y1
            go_wp2_with fail
            exact hK'
          go_simp
          refine hK _ ?_
          clear hK K
          refine tree_p rfl rfl rfl rfl _ rfl (by simp) (fun K hK => ?_)
          apply Exists.intro
          refine ⟨fun wq K' hK' => ?_, ?_⟩
          · go_wp2_with fail
            exact hK'
          go_simp
          refine hK _ ?_
          clear hK K
          refine tree_p rfl rfl rfl rfl _ rfl (by simp) (fun K hK => ?_)
          apply Exists.intro
          refine ⟨fun wq K' hK' => ?_, ?_⟩
          · go_wp2_with fail
            exact hK'
          go_simp
          refine hK _ ?_
          clear hK K
          refine tree_p rfl rfl rfl rfl _ rfl (by simp) (fun K hK => ?_)
          apply Exists.intro
          refine ⟨fun wq K' hK' => ?_, ?_⟩
          · go_wp2_with fail
            exact hK'
          go_simp
          refine hK _ ?_
          clear hK K
          refine tree_p rfl rfl rfl rfl _ rfl (by simp) (fun K hK => ?_)
          apply Exists.intro
          refine ⟨fun wq K' hK' => ?_, ?_⟩
          · go_wp2_with fail
            exact hK'
          go_simp
          refine hK _ ?_
          clear hK K
          refine tree_p rfl rfl rfl rfl _ rfl (by simp) (fun K hK => ?_)
          apply Exists.intro
          refine ⟨fun wq K' hK' => ?_, ?_⟩
          · go_wp2_with fail
            exact hK'
          go_simp
          refine hK _ ?_
          clear hK K
          refine tree_p rfl rfl rfl rfl _ rfl (by simp) (fun K hK => ?_)
          apply Exists.intro
          refine ⟨fun wq K' hK' => ?_, ?_⟩
          · go_wp2_with fail
            exact hK'
          go_simp
          refine hK _ ?_
          clear hK K
          refine tree_p rfl rfl rfl rfl _ rfl (by simp) (fun K hK => ?_)
          apply Exists.intro
          refine ⟨fun wq K' hK' => ?_, ?_⟩
          · go_wp2_with fail
            exact hK'
          go_simp
          refine hK _ ?_
          clear hK K
          refine tree_b rfl rfl rfl rfl _ rfl (by simp) (fun K hK => ?_)
          apply Exists.intro
          refine ⟨fun wq hq K' hK' => ?_, ?_⟩
          · have ss0 := hq.k s0
            have ss1 := hq.k s1
            have yy0 := hq.k y0
            have yy1 := hq.k y1
            go_wp2_with fail
            exact hK'
          go_simp
          refine hK _ ?_
          clear hK K
          refine tree_p rfl rfl rfl rfl _ rfl (by simp) (fun K hK => ?_)
          apply Exists.intro
          refine ⟨fun wq K' hK' => ?_, ?_⟩
          · go_wp2_with fail
            exact hK'
          go_simp
          refine hK _ ?_
          clear hK K
          refine tree_e0 (by kernel_rfl) rfl rfl (fun K hK => ?_)
          go_wp2_with fail
          try go_simp
          refine hK _ _ trivial ?_
          clear hK K
          obtain ⟨w12, hw12⟩ : ∃ x, x = (W1).alloc (.cells [.int .i64 k, .int .i64 p.x, .int .i64 p.y, .int .i64 q.x, .int .i64 q.y].toArray 117) := ⟨_, rfl⟩
          have hg12 : (W1).grownBy w12 none := by rw [hw12]; exact gr_alloc (World.grownBy.refl _ _) _
          have hb12 : Box w12 (W1).heap.size 117 [.int .i64 k, .int .i64 p.x, .int .i64 p.y, .int .i64 q.x, .int .i64 q.y] := by rw [hw12]; exact Box.new _ _ _
          rw [← hw12]
          clear hw12
          obtain ⟨x12, hx12⟩ : ∃ x, x = (W1).heap.size := ⟨_, rfl⟩
          rw [← hx12] at hb12 ⊢
          have hxl12 : (W1).heap.size ≤ x12 := by omega
          clear hx12
          replace hg := gr_trans hg hg12
          replace hown := hown.pure hg12
          refine tree_e0 (by kernel_rfl) rfl rfl (fun K hK => ?_)
          obtain ⟨i0, hi, hz, h1, h2⟩ := info_parts info_sid
          refine wp_pushAt (α := Sid) _ (.tmp 22) (.tmp 34) _ rfl w.heap.size 117 i0 _ 40 Tryz.underlying113 hi hz h1 h2 rfl _ _ _ M rfl rfl hown 0 ⟨x12, 0, none⟩ _ _ [⟨k, p, q⟩] rfl rfl (hb12.sl ⟨_, [], rfl, rfl, rfl⟩ (Nat.zero_le _) (by simp [maxLen])) ?_ ?_ ?_ ?_
          · first | omega | (simp; omega)
          · first | (simp [maxLen]; omega) | (unfold maxLen; omega)
          · exact hg.size
          intro A5 c5 w5 hown5 hG5
          try go_simp
          refine hK _ _ trivial ?_
          clear hK K
          refine tree_p rfl rfl rfl rfl _ rfl (by simp) (fun K hK => ?_)
          apply Exists.intro
          refine ⟨fun wq K' hK' => ?_, ?_⟩
          · go_wp2_with fail
            exact hK'
          go_simp
          refine hK _ ?_
          clear hK K
          refine tree_done ?_
          have hg5 : w.grownBy w5 none := gr_row hg hG5.1 (fun x e => (hown.blk_lt e).1)
          have hl5 : Hid ((L ++ ringS k r (m + 1)).length = M.length + 1) := by rw [Hid, hsn.out]; simp
          rw [← hsn.out] at hown5
          clear hown hg
          go_wp2_with fail
          (go_roundw; (case rel => exact ⟨m + 1, A5, c5, by omega, by go_num, by rw [hl5.out], hown5, hg5⟩); (case measure => simp [intOf]; omega))
        · have hm3 : m = r.length := by omega
          subst hm3
          rw [← hK1.out] at hown ⊢
          go_wp2_with fail
          (go_roundw; (case rel => exact ⟨k + 1, A', c', by omega, by go_num, rfl, hown, hg⟩); (case measure => simp [intOf]; omega))
    · have hke : k = rs.length := by omega
      subst hke
      go_wp2_with fail
      go_ret
      exact ⟨A', c', rfl, hown, hg⟩

end Go.Proofs.YtgcfaamgilbjdaaGreatDoor

namespace Go.Bl
open Go

def crossG (r : List Pt) (p : Pt) (i : Nat) : Bool := (decide ((cor r i).y > p.y) != decide ((cor r (i + 1)).y > p.y)) && (decide (turnP (cor r i) (cor r (i + 1)) p > 0) == decide ((cor r (i + 1)).y > (cor r i).y))
/-- whether a point is in a ring, by its first k sides -/
def isInK (r : List Pt) (p : Pt) : Nat → Bool
  | 0 => false
  | k + 1 => if crossG r p k then !isInK r p k else isInK r p k

def isInF (r : List Pt) (p : Pt) : Bool := isInK r p r.length

end Go.Bl

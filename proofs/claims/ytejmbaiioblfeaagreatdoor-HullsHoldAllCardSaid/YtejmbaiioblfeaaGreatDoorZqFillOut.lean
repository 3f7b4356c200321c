/- Contracts of functions that this seat's laws reach, each: what one call returns and what it leaves in memory; no condition beyond each theorem's own hypotheses. -/
import Derived.Test.YtejmbaiioblfeaaGreatDoorZqRegB
import Derived.Test.YtejmbaiioblfeaaGreatDoorZqFlowD
import Derived.Test.YtejmbaiioblfeaaGreatDoorZqMapPt
set_option linter.unusedVariables false
set_option linter.unusedSimpArgs false
namespace Go.Bl
open Go

theorem far_bd {p : Pt} (h : farP p = false) : bdP p := by
  unfold bdP
  simp [farP, outB] at h
  omega

def twiceB (r : List Pt) : Bool := (List.range r.length).any fun k => decide (cor r k ∈ r.take k)
/-- what is wrong with a ring -/
def ringF (r : List Pt) : Int := if r.length < 3 then 3 else if 500 < r.length then 2 else if r.any farP then 1 else if twiceB r then 6 else sidesF r

end Go.Bl
namespace Go.Proofs.YtejmbaiioblfeaaGreatDoor
open Go Go.RowKit Go.Bl Go.Maps Go.WideShapes

set_option maxHeartbeats 400000 in
theorem indexFarR_any (A : Option Addr) (c : Nat) (l : List Pt) (w : World) (hl : Sl w 0 A l) :
    Calls Tryz.prog 61 #[.slice A l.length c, .func (.func 46) #[] #[]] w fun e w' => ∃ r : Int, e = .returned (.int .i64 r) ∧ decide (0 ≤ r) = l.any farP ∧ w.grownBy w' none := by
  have hm := hl.1
  unfold maxLen at hm
  go_enter Tryz.func61, Tryz.ntmps61
  go_wp2
  go_loopw [8] (fun i wr => ∃ k : Nat, k ≤ l.length ∧ i = .int .i64 k ∧ w.grownBy wr none ∧ Hid ((l.take k).any farP = false)) (fun i _ => l.length - (intOf i).toNat)
  case atStart => exact ⟨0, Nat.zero_le _, rfl, World.grownBy.refl _ _, by simp [Hid]⟩
  case round =>
    obtain ⟨k, hk, rfl, hg, hall⟩ := hrel
    by_cases hlt : k < l.length
    · obtain ⟨g, o, cx, rfl, hb0, hb1, rfl, hc⟩ := (hl.pure hg).at_ (by decide) hlt
      have c0 : wr.cell? ⟨g, o + k * 2, none⟩ = some (.int .i64 l[k].x) := hc 0 _ rfl
      have c1 : wr.cell? ⟨g, o + k * 2 + 1, none⟩ = some (.int .i64 l[k].y) := hc 1 _ rfl
      clear hc
      have HS := hide (any_snoc hlt)
      have HA : Hid (farP l[k] = true → l.any farP = true) := any_at hlt
      go_wp2_with fail
      refine (isFar_any l[k] _).mono ?_
      rintro e w' ⟨rfl, hg'⟩
      rcases hf : farP l[k] with _ | _
      · go_wp2_with fail
        go_roundw
        case rel => exact ⟨k + 1, by omega, by go_num, gr_trans hg hg', by simp only [Hid]; rw [HS.out, hall.out, hf]; rfl⟩
        case measure => simp [intOf]; omega
      · have HB := hide (HA.out hf)
        go_wp2_with fail
        go_ret
        exact ⟨k, rfl, by rw [HB.out]; simp, gr_trans hg hg'⟩
    · have HB : Hid (l.any farP = false) := by have := hall.out; rwa [List.take_of_length_le (by omega)] at this
      go_wp2
      go_ret
      exact ⟨-1, rfl, by rw [HB.out]; rfl, hg⟩

set_option maxHeartbeats 400000 in
theorem containsFarR_any (A : Option Addr) (c : Nat) (l : List Pt) (w : World) (hl : Sl w 0 A l) :
    Calls Tryz.prog 24 #[.slice A l.length c, .func (.func 46) #[] #[]] w fun e w' => e = .returned (.bool (l.any farP)) ∧ w.grownBy w' none := by
  go_enter Tryz.func24, Tryz.ntmps24
  go_wp2_with fail
  refine (indexFarR_any _ _ _ _ hl).mono ?_
  rintro e w1 ⟨r, rfl, hr, hg⟩
  replace hr := hide hr
  go_wp2_with fail
  go_ret
  exact ⟨ret_bool hr.out, hg⟩

theorem i64_wf {n : Int} (h : -9223372036854775808 ≤ n ∧ n ≤ 9223372036854775807) : (Lit.int .i64 n).wf = true := by
  unfold Lit.wf
  simp [IntKind.wrap, i64_in h]
  exact h

theorem okP_bd {p : Pt} (h : bdP p) : okP p := by
  unfold bdP at h
  exact ⟨i64_wf (by omega), i64_wf (by omega)⟩

theorem setP_nil : setP [] = fun _ => none := by funext z; simp [setP]

set_option maxHeartbeats 4000000 in
set_option maxRecDepth 100000 in
theorem checkRing_any (A : Option Addr) (c : Nat) (r : List Pt) (w : World) (hl : Sl w 0 A r) :
    Calls Tryz.prog 22 #[.slice A r.length c] w fun e w' => e = .returned (.int .i64 (ringF r)) ∧ w.grownBy w' none := by
  have hm := hl.1
  unfold maxLen at hm
  have hV : Hid (ringF r = if r.length < 3 then 3 else if 500 < r.length then 2 else if r.any farP then 1 else if twiceB r then 6 else sidesF r) := rfl
  by_cases h3 : r.length < 3
  · have hF := hide (hV.out.trans (if_pos h3))
    clear hV
    go_enter Tryz.func22, Tryz.ntmps22
    go_wp2_with fail
    go_ret
    exact ⟨ret_int hF.out.symm, (by repeat (first | exact World.grownBy.refl _ _ | assumption | refine gr_alloc ?_ _ | (apply gr_tail; assumption) | refine gr_drewN ?_ _ | refine gr_drew ?_))⟩
  by_cases h5 : 500 < r.length
  · have hF := hide ((hV.out.trans (if_neg h3)).trans (if_pos h5))
    clear hV
    go_enter Tryz.func22, Tryz.ntmps22
    go_wp2_with fail
    go_ret
    exact ⟨ret_int hF.out.symm, (by repeat (first | exact World.grownBy.refl _ _ | assumption | refine gr_alloc ?_ _ | (apply gr_tail; assumption) | refine gr_drewN ?_ _ | refine gr_drew ?_))⟩
  rw [Hid, if_neg h3, if_neg h5] at hV
  replace hV := hide hV
  have hI := hide (containsFarR_any A c r w hl)
  rcases hfar : r.any farP with _ | _
  · rw [hfar] at hI hV
    rw [Hid, if_neg (by simp)] at hV
    replace hV := hide hV
    have hbd : Hid (∀ p ∈ r, bdP p) := fun p hp => far_bd (by
      have := List.any_eq_false.1 hfar p hp
      simpa using this)
    clear hfar
    go_enter Tryz.func22, Tryz.ntmps22
    go_wp2_with fail
    refine hI.out.mono ?_
    rintro e w1 ⟨rfl, hg1⟩
    have hmk := run_makeMap (P := Tryz.prog) 97 w1
    have hM0 := MapOf.made ptM w1
    rw [← setP_nil] at hM0
    have hgm := gr_alloc (World.grownBy.refl w1 none) (.map #[] 0)
    have hgw := gr_trans hg1 hgm
    have hsz1 := hg1.size
    go_wp2_with fail
    obtain ⟨gm, hgmE⟩ : ∃ g, g = w1.heap.size := ⟨_, rfl⟩
    obtain ⟨w2, hw2⟩ : ∃ x, x = w1.alloc (.map #[] 0) := ⟨_, rfl⟩
    rw [← hgmE, ← hw2] at hM0
    rw [← hw2] at hgw
    rw [← hgmE, ← hw2]
    have hgmw : w.heap.size ≤ gm := by omega
    clear hmk hgm hw2 hgmE hg1 hI
    go_loopw [17] (fun i wr => ∃ k : Nat, k ≤ r.length ∧ i = .int .i64 k ∧ MapOf ptM wr gm k (setP (r.take k)) ∧ w.grownBy wr none ∧ Hid (∀ i, i < k → decide (cor r i ∈ r.take i) = false)) (fun i _ => r.length - (intOf i).toNat)
    case atStart => exact ⟨0, Nat.zero_le _, rfl, hM0, hgw, fun i h => by omega⟩
    case round =>
      clear hM0 hgw
      obtain ⟨k, hk, rfl, hM, hg, hall⟩ := hrel
      by_cases hlt : k < r.length
      · obtain ⟨g, o, cx, rfl, _, hb1, rfl, hc⟩ := (hl.pure hg).at_ (by decide) hlt
        have c0 : wr.cell? ⟨g, o + k * 2, none⟩ = some (.int .i64 r[k].x) := hc 0 _ rfl
        have c1 : wr.cell? ⟨g, o + k * 2 + 1, none⟩ = some (.int .i64 r[k].y) := hc 1 _ rfl
        clear hc
        have hok := hide (okP_bd (hbd.out _ (List.getElem_mem hlt)))
        have hck := hide (cor_lt hlt)
        have htk := hide (take_snoc hlt)
        have hTw : Hid (decide (r[k] ∈ r.take k) = true → ringF r = 6) := fun h => by
          rw [hV.out, if_pos]
          unfold twiceB
          exact any_yes hlt (by rw [hck.out]; exact h)
        generalize r[k] = p at *
        go_upto_region 11 with fail
        obtain ⟨w5, hw5⟩ : ∃ x, x = (wr).alloc (.cells [.int .i64 p.x, .int .i64 p.y].toArray 29) := ⟨_, rfl⟩
        have hg5 : (wr).grownBy w5 none := by rw [hw5]; exact gr_alloc (World.grownBy.refl _ _) _
        have hb5 : Box w5 (wr).heap.size 29 [.int .i64 p.x, .int .i64 p.y] := by rw [hw5]; exact Box.new _ _ _
        have hxs5 := hb5.lt
        rw [← hw5]
        clear hw5
        obtain ⟨x5, hx5⟩ : ∃ x, x = (wr).heap.size := ⟨_, rfl⟩
        rw [← hx5] at hb5 hxs5 ⊢
        have hxl5 : (wr).heap.size ≤ x5 := by omega
        clear hx5
        obtain ⟨y0, -⟩ := hb5.c 0 rfl
        obtain ⟨y1, -⟩ := hb5.c 1 rfl
        replace hM := hM.kept hg5 (by simp)
        replace hg := gr_trans hg hg5
        clear c0 c1 hg5
        have hk2 : k < 500 := by omega
        rcases hbb : decide (p ∈ r.take k) with _ | _
        · replace hbb := hide hbb
          go_wp2_with (first | (at_lookup; refine wpList_lookup_P _ rfl _ _ rfl gm _ (r.take k) rfl hM p rfl hok.out false hbb.out ?_) | (at_mapUpdate; refine wpList_store_P _ rfl _ _ _ rfl gm _ (r.take k) rfl hM (by simp [maxLen]; omega) p rfl rfl hok.out ?_; intro w4 hM4 hg4))
          have hg4' : w.grownBy w4 none := gr_row hg hg4 (fun x e => by injection e; omega)
          (go_roundw; (case rel => exact ⟨k + 1, by omega, by go_num, by rw [htk.out]; exact hM4, hg4', fun i hi => by
                      by_cases e : i < k
                      · exact hall.out i e
                      · rw [show i = k by omega, hck.out]; exact hbb.out⟩); (case measure => simp [intOf]; omega))
        · have hF := hide (hTw.out hbb)
          replace hbb := hide hbb
          clear hTw
          go_wp2_with (at_lookup; refine wpList_lookup_P _ rfl _ _ rfl gm _ (r.take k) rfl hM p rfl hok.out true hbb.out ?_)
          go_ret
          exact ⟨ret_int hF.out.symm, hg⟩
      · have hF : Hid (ringF r = sidesF r) := by
          rw [Hid, hV.out, if_neg]
          unfold twiceB
          rw [any_no (fun i hi => hall.out i (by omega))]
          simp
        have hS := hide (sidesFault_any A c r wr (hl.pure hg) (by omega) (by omega) hbd.out)
        go_wp2_with fail
        refine hS.out.mono ?_
        rintro e w5 ⟨rfl, hg5⟩
        go_wp2_with fail
        go_ret
        exact ⟨ret_int hF.out.symm, gr_trans hg hg5⟩
  · rw [hfar] at hI hV
    have hF := hide (hV.out.trans (if_pos rfl))
    clear hV hfar
    go_enter Tryz.func22, Tryz.ntmps22
    go_wp2_with fail
    refine hI.out.mono ?_
    rintro e w1 ⟨rfl, hg1⟩
    go_wp2_with fail
    go_ret
    exact ⟨ret_int hF.out.symm, hg1⟩

end Go.Proofs.YtejmbaiioblfeaaGreatDoor

namespace Go.Bl
open Go
/-- a side of a region -/
structure Sid where
  ring : Int
  a : Pt
  b : Pt
deriving DecidableEq

instance : Inhabited Sid := ⟨⟨0, default, default⟩⟩

instance : Enc Sid where
  sz := 5
  rep := fun _ _ p cs => cs = [.int .i64 p.ring, .int .i64 p.a.x, .int .i64 p.a.y, .int .i64 p.b.x, .int .i64 p.b.y]
  len := by rintro w lo x cs rfl; rfl
  one := by rintro w lo x cs rfl u hu; simp at hu; rcases hu with rfl | rfl | rfl | rfl | rfl <;> rfl
  keep := fun h _ => h
  mono := fun h _ => h

instance : Flat Sid := ⟨fun h => h, by decide⟩

def ringS (i : Nat) (r : List Pt) (k : Nat) : List Sid := (List.range k).map fun k => ⟨i, cor r k, cor r (k + 1)⟩

def sidesK (rs : List (List Pt)) (k : Nat) : List Sid := ((List.range k).map fun i => ringS i (rs.getD i []) (rs.getD i []).length).flatten

theorem ringS_snoc (i : Nat) (r : List Pt) (k : Nat) : ringS i r (k + 1) = ringS i r k ++ [⟨i, cor r k, cor r (k + 1)⟩] := by unfold ringS; rw [List.range_succ, List.map_append]; rfl

theorem ringS_len (i : Nat) (r : List Pt) (k : Nat) : (ringS i r k).length = k := by simp [ringS]

theorem sidesK_snoc {rs : List (List Pt)} {k : Nat} (h : k < rs.length) : sidesK rs (k + 1) = sidesK rs k ++ ringS k rs[k] rs[k].length := by
  unfold sidesK; rw [List.range_succ, List.map_append, List.flatten_append]; simp [List.getD, h]

theorem sidesK_len {rs : List (List Pt)} : ∀ {k : Nat}, k ≤ rs.length → (sidesK rs k).length = (flatK rs k).length
  | 0, _ => rfl
  | k + 1, h => by
    rw [sidesK_snoc (by omega), flatK_snoc (by omega), List.length_append, List.length_append, ringS_len, sidesK_len (by omega)]

theorem sl_inner' {α : Type} [Enc α] {w : World} {A : Option Addr} {ls : List (List α)} (h : Sl w 0 A ls) {k : Nat} (hk : k < ls.length) : ∃ g o B d, A = some ⟨g, o, none⟩ ∧ g < w.heap.size ∧ w.cell? ⟨g, o + k, none⟩ = some (.slice B ls[k].length d) ∧ ls[k].length ≤ d ∧ Sl w 0 B ls[k] := by
  obtain ⟨g, o, c1, e, _, hb, ⟨B, d, rfl, hle, hs⟩, hc⟩ := h.at_ Nat.one_pos hk
  have := hc 0 _ rfl
  rw [show Enc.sz (List α) = 1 from rfl, Nat.mul_one, Nat.add_zero] at this
  exact ⟨g, o, B, d, e, hb, this, hle, hs⟩

end Go.Bl
namespace Go.Proofs.YtejmbaiioblfeaaGreatDoor
open Go Go.RowKit Go.Bl

theorem info_sid : (Tryz.prog.info? 86).map (fun i => (i.zero, i.size, i.bytes)) = some (some (.agg #[.int .i64 0, .int .i64 0, .int .i64 0, .int .i64 0, .int .i64 0]), 5, 40) := by kernel_rfl

set_option maxHeartbeats 8000000 in
set_option maxRecDepth 100000 in
theorem sidesG_any (A : Option Addr) (c : Nat) (rs : List (List Pt)) (w : World) (hl : Sl w 0 A rs) (hn : ∀ r ∈ rs, 0 < r.length) (hs : (flatK rs rs.length).length ≤ 100000) :
    Calls Tryz.prog 48 #[.slice A rs.length c] w fun e w' => ∃ A' c', e = .returned (.slice A' (sidesK rs rs.length).length c') ∧ Own w' w.heap.size 86 A' c' (sidesK rs rs.length) ∧ w.grownBy w' none := by
  have hm := hl.1
  unfold maxLen at hm
  replace hn := hide hn
  have hbd := hide fun k => Nat.le_trans (flatK_le rs k) hs
  go_enter Tryz.func48, Tryz.ntmps48
  go_wp2_with fail
  go_loopw [3, 10] (fun o i wr => ∃ (k : Nat) (A' : Option Addr) (c' : Nat), k ≤ rs.length ∧ i = .int .i64 k ∧ o = .slice A' (sidesK rs k).length c' ∧ Own wr w.heap.size 86 A' c' (sidesK rs k) ∧ w.grownBy wr none) (fun _ i _ => rs.length - (intOf i).toNat)
  case atStart => exact ⟨0, none, 0, Nat.zero_le _, rfl, rfl, Own.nil _ _ _, World.grownBy.refl _ _⟩
  case round =>
    obtain ⟨k, A', c', hk, rfl, rfl, hown, hg⟩ := hrel
    by_cases hlt : k < rs.length
    · obtain ⟨g, o, Bk, dk, rfl, hb1, c0, -, hsl⟩ := sl_inner' hl hlt
      replace c0 := hg.k c0
      have hrk := hn.out _ (List.getElem_mem hlt)
      have hK1 := hide (sidesK_snoc hlt)
      have hle : (sidesK rs k).length + rs[k].length ≤ 100000 := by
        have h1 := hbd.out (k + 1)
        rw [flatK_snoc hlt, List.length_append, ← sidesK_len (by omega)] at h1
        exact h1
      obtain ⟨r, hr⟩ : ∃ x, x = rs[k] := ⟨_, rfl⟩
      rw [← hr] at c0 hsl hrk hK1 hle
      clear hr
      generalize hL : sidesK rs k = L at *
      clear hL
      have hrl : r.length ≤ 100000 := by omega
      go_wp2_with fail
      go_loopw [3, 17] (fun o i wr => ∃ (m : Nat) (A' : Option Addr) (c' : Nat), m ≤ r.length ∧ i = .int .i64 m ∧ o = .slice A' (L ++ ringS k r m).length c' ∧ Own wr w.heap.size 86 A' c' (L ++ ringS k r m) ∧ w.grownBy wr none) (fun _ i _ => r.length - (intOf i).toNat)
      case atStart => exact ⟨0, A', c', Nat.zero_le _, rfl, by simp [ringS], by simpa [ringS] using hown, hg⟩
      case round =>
        clear hown hg c0
        obtain ⟨m, A', c', hm2, rfl, rfl, hown, hg⟩ := hrel
        by_cases hml : m < r.length
        · obtain ⟨gr, or_, rfl, -, hbr, hcell⟩ := hsl.pt (by omega)
          obtain ⟨j1, hj1⟩ : ∃ j, j = (m + 1) % r.length := ⟨_, rfl⟩
          have hj1b : ((m : Int) + 1) % r.length = j1 := by rw [hj1]; simp
          have hj1l : j1 < r.length := by rw [hj1]; exact Nat.mod_lt _ (by omega)
          have q0 := hg.k (hcell m hml).1
          have q1 := hg.k (hcell m hml).2
          have s0 := hg.k (hcell j1 hj1l).1
          have s1 := hg.k (hcell j1 hj1l).2
          have e1 : cor r m = r[m] := cor_lt hml
          have e2 : cor r (m + 1) = r[j1] := by unfold cor; rw [← hj1]; simp [List.getD, hj1l]
          have hsn : Hid (L ++ ringS k r (m + 1) = (L ++ ringS k r m) ++ [⟨k, cor r m, cor r (m + 1)⟩]) := by rw [Hid, ringS_snoc, List.append_assoc]
          have hMl : (L ++ ringS k r m).length ≤ 100000 := by rw [List.length_append, ringS_len]; omega
          rw [← e1] at q0 q1
          rw [← e2] at s0 s1
          generalize cor r m = p at *
          generalize cor r (m + 1) = q at *
          replace hj1 := hide hj1
          clear e1 e2 hcell
          generalize hM : L ++ ringS k r m = M at *
          clear hM
          go_upto_region 8 with fail
          obtain ⟨w7, hw7⟩ : ∃ x, x = (wr).alloc (.cells [.int .i64 p.x, .int .i64 p.y].toArray 29) := ⟨_, rfl⟩
          have hg7 : (wr).grownBy w7 none := by rw [hw7]; exact gr_alloc (World.grownBy.refl _ _) _
          have hb7 : Box w7 (wr).heap.size 29 [.int .i64 p.x, .int .i64 p.y] := by rw [hw7]; exact Box.new _ _ _
          have hxs7 := hb7.lt
          rw [← hw7]
          clear hw7
          obtain ⟨x7, hx7⟩ : ∃ x, x = (wr).heap.size := ⟨_, rfl⟩
          rw [← hx7] at hb7 hxs7 ⊢
          have hxl7 : (wr).heap.size ≤ x7 := by omega
          clear hx7
          replace q0 := hg7.k q0
          replace q1 := hg7.k q1
          replace s0 := hg7.k s0
          replace s1 := hg7.k s1
          replace hg := gr_trans hg hg7
          replace hown := hown.pure hg7
          obtain ⟨y0, -⟩ := hb7.c 0 rfl
          obtain ⟨y1, -⟩ := hb7.c 1 rfl
          clear hg7 q0 q1
          refine wp_region_tree (fun wx => w7.grownBy wx none) [2, 2, 1, 2, 2, 2, 2, 2, 2, 2, 1, 2, 0, 0, 2] (.bl 0 (.bl 1 (.bl 2 (.bl 3 (.bl 4 (.bl 5 (.bl 6 (.bl 7 (.bl 8 (.bl 9 (.bl 10 (.bl 11 (.ef 12 (.ef 13 (.bl 14 .done))))))))))))))) (by kernel_rfl) (by kernel_rfl) (gr_drew (World.grownBy.refl _ _)) ?_
          obtain ⟨W1, hW1⟩ : ∃ x, x = (w7).drew := ⟨_, rfl⟩
          rw [← hW1]
          have hgW1 : (w7).grownBy W1 none := by rw [hW1]; exact gr_drew (World.grownBy.refl _ _)
          clear hW1
          replace hg := gr_trans hg hgW1
          replace hown := hown.pure hgW1
          refine tree_p rfl rfl rfl rfl _ rfl (by simp) (fun K hK => ?_)
          apply Exists.intro
          refine ⟨fun wq K' hK' => ?_, ?_⟩
          · go_wp2_with fail
            exact hK'
          go_simp
          refine hK _ ?_
          clear hK K
          refine tree_p rfl rfl rfl rfl _ rfl (by simp) (fun K hK => ?_)
          apply Exists.intro
          refine ⟨fun wq K' hK' => ?_, ?_⟩
          · go_wp2_with fail
            exact hK'
          go_simp
          refine hK _ ?_
          clear hK K
          refine tree_b rfl rfl rfl rfl _ rfl (by simp) (fun K hK => ?_)
          apply Exists.intro
          refine ⟨fun wq hq K' hK' => ?_, ?_⟩
          · have ss0 := hq.k s0
            have ss1 := hq.k s1
            have yy0 := hq.k y0
            have yy1 := hq.k y1
            go_wp2_with fail
            exact hK'
          go_simp
          refine hK _ ?_
          clear hK K
          refine tree_p rfl rfl rfl rfl _ rfl (by simp) (fun K hK => ?_)
          apply Exists.intro
          refine ⟨fun wq K' hK' => ?_, ?_⟩
          · go_wp2_with fail
            exact hK'
          go_simp
          refine hK _ ?_
          clear hK K
          refine tree_p rfl rfl rfl rfl _ rfl (by simp) (fun K hK => ?_)
          apply Exists.intro
          refine ⟨fun wq K' hK' => ?_, ?_⟩
          · go_wp2_with fail
            exact hK'
          go_simp
          refine hK _ ?_
          clear hK K
          refine tree_p rfl rfl rfl rfl _ rfl (by simp) (fun K hK => ?_)
          apply Exists.intro
          refine ⟨fun wq K' hK' => ?_, ?_⟩
          · go_wp2_with fail
            exact hK'
          go_simp
          refine hK _ ?_
          clear hK K
          refine tree_p rfl rfl rfl rfl _ rfl (by simp) (fun K hK => ?_)
          apply Exists.intro
          refine ⟨fun wq K' hK' => ?_, ?_⟩
          · go_wp2_with fail
            exact hK'
          go_simp
          refine hK _ ?_
          clear hK K
          refine tree_p rfl rfl rfl rfl _ rfl (by simp) (fun K hK => ?_)
          apply Exists.intro
          refine ⟨fun wq K' hK' => ?_, ?_⟩
          · go_wp2_with fail
            exact hK'
          go_simp
          refine hK _ ?_
          clear hK K
          refine tree_p rfl rfl rfl rfl _ rfl (by simp) (fun K hK => ?_)
          apply Exists.intro
          refine ⟨fun wq K' hK' => ?_, ?_⟩
          · go_wp2_with fail
            exact hK'
          go_simp
          refine hK _ ?_
          clear hK K
          refine tree_p rfl rfl rfl rfl _ rfl (by simp) (fun K hK => ?_)
          apply Exists.intro
          refine ⟨fun wq K' hK' => ?_, ?_⟩
          · go_wp2_with fail
            exact hK'
          go_simp
          refine hK _ ?_
          clear hK K
          refine tree_b rfl rfl rfl rfl _ rfl (by simp) (fun K hK => ?_)
          apply Exists.intro
          refine ⟨fun wq hq K' hK' => ?_, ?_⟩
          · have ss0 := hq.k s0
            have ss1 := hq.k s1
            have yy0 := hq.k y0
            have yy1 := hq.k y1
            go_wp2_with fail
            exact hK'
          go_simp
          refine hK _ ?_
          clear hK K
          refine tree_p rfl rfl rfl rfl _ rfl (by simp) (fun K hK => ?_)
          apply Exists.intro
          refine ⟨fun wq K' hK' => ?_, ?_⟩
          · go_wp2_with fail
            exact hK'
          go_simp
          refine hK _ ?_
          clear hK K
          refine tree_e0 (by kernel_rfl) rfl rfl (fun K hK => ?_)
          go_wp2_with fail
          try go_simp
          refine hK _ _ trivial ?_
          clear hK K
          obtain ⟨w12, hw12⟩ : ∃ x, x = (W1).alloc (.cells [.int .i64 k, .int .i64 p.x, .int .i64 p.y, .int .i64 q.x, .int .i64 q.y].toArray 86) := ⟨_, rfl⟩
          have hg12 : (W1).grownBy w12 none := by rw [hw12]; exact gr_alloc (World.grownBy.refl _ _) _
          have hb12 : Box w12 (W1).heap.size 86 [.int .i64 k, .int .i64 p.x, .int .i64 p.y, .int .i64 q.x, .int .i64 q.y] := by rw [hw12]; exact Box.new _ _ _
          rw [← hw12]
          clear hw12
          obtain ⟨x12, hx12⟩ : ∃ x, x = (W1).heap.size := ⟨_, rfl⟩
          rw [← hx12] at hb12 ⊢
          have hxl12 : (W1).heap.size ≤ x12 := by omega
          clear hx12
          replace hg := gr_trans hg hg12
          replace hown := hown.pure hg12
          refine tree_e0 (by kernel_rfl) rfl rfl (fun K hK => ?_)
          obtain ⟨i0, hi, hz, h1, h2⟩ := info_parts info_sid
          refine wp_pushAt (α := Sid) _ (.tmp 22) (.tmp 34) _ rfl w.heap.size 86 i0 _ 40 Tryz.underlying84 hi hz h1 h2 rfl _ _ _ M rfl rfl hown 0 ⟨x12, 0, none⟩ _ _ [⟨k, p, q⟩] rfl rfl (hb12.sl ⟨_, [], rfl, rfl, rfl⟩ (Nat.zero_le _) (by simp [maxLen])) ?_ ?_ ?_ ?_
          · first | omega | (simp; omega)
          · first | (simp [maxLen]; omega) | (unfold maxLen; omega)
          · exact hg.size
          intro A5 c5 w5 hown5 hG5
          try go_simp
          refine hK _ _ trivial ?_
          clear hK K
          refine tree_p rfl rfl rfl rfl _ rfl (by simp) (fun K hK => ?_)
          apply Exists.intro
          refine ⟨fun wq K' hK' => ?_, ?_⟩
          · go_wp2_with fail
            exact hK'
          go_simp
          refine hK _ ?_
          clear hK K
          refine tree_done ?_
          have hg5 : w.grownBy w5 none := gr_row hg hG5.1 (fun x e => (hown.blk_lt e).1)
          have hl5 : Hid ((L ++ ringS k r (m + 1)).length = M.length + 1) := by rw [Hid, hsn.out]; simp
          rw [← hsn.out] at hown5
          clear hown hg
          go_wp2_with fail
          (go_roundw; (case rel => exact ⟨m + 1, A5, c5, by omega, by go_num, by rw [hl5.out], hown5, hg5⟩); (case measure => simp [intOf]; omega))
        · have hm3 : m = r.length := by omega
          subst hm3
          rw [← hK1.out] at hown ⊢
          go_wp2_with fail
          (go_roundw; (case rel => exact ⟨k + 1, A', c', by omega, by go_num, rfl, hown, hg⟩); (case measure => simp [intOf]; omega))
    · have hke : k = rs.length := by omega
      subst hke
      go_wp2_with fail
      go_ret
      exact ⟨A', c', rfl, hown, hg⟩

end Go.Proofs.YtejmbaiioblfeaaGreatDoor

namespace Go.Bl
open Go

def crossG (r : List Pt) (p : Pt) (i : Nat) : Bool := (decide ((cor r i).y > p.y) != decide ((cor r (i + 1)).y > p.y)) && (decide (turnP (cor r i) (cor r (i + 1)) p > 0) == decide ((cor r (i + 1)).y > (cor r i).y))
/-- whether a point is in a ring, by its first k sides -/
def isInK (r : List Pt) (p : Pt) : Nat → Bool
  | 0 => false
  | k + 1 => if crossG r p k then !isInK r p k else isInK r p k

def isInF (r : List Pt) (p : Pt) : Bool := isInK r p r.length

theorem mem_sidesK {rs : List (List Pt)} {s : Sid} : s ∈ sidesK rs rs.length ↔ ∃ i, i < rs.length ∧ ∃ k, k < (rs.getD i []).length ∧ s = ⟨i, cor (rs.getD i []) k, cor (rs.getD i []) (k + 1)⟩ := by
  unfold sidesK
  rw [List.mem_flatten]
  constructor
  · rintro ⟨l, hl, hs⟩
    obtain ⟨i, hi, rfl⟩ := List.mem_map.1 hl
    unfold ringS at hs
    obtain ⟨k, hk, rfl⟩ := List.mem_map.1 hs
    exact ⟨i, List.mem_range.1 hi, k, List.mem_range.1 hk, rfl⟩
  · rintro ⟨i, hi, k, hk, rfl⟩
    refine ⟨_, List.mem_map.2 ⟨i, List.mem_range.2 hi, rfl⟩, ?_⟩
    unfold ringS
    exact List.mem_map.2 ⟨k, List.mem_range.2 hk, rfl⟩

end Go.Bl

namespace Go.Bl
open Go

def inI' (n l h : Int) : Bool := decide (l ≤ n) && decide (n ≤ h)
/-- the reference's: a point on a way -/
def onB (p a b : Pt) : Bool := decide (turnP a b p = 0) && (inI' p.x (min a.x b.x) (max a.x b.x) && inI' p.y (min a.y b.y) (max a.y b.y))

def boxP (p a b : Pt) : Prop := (min a.x b.x ≤ p.x ∧ p.x ≤ max a.x b.x) ∧ min a.y b.y ≤ p.y ∧ p.y ≤ max a.y b.y

theorem onB_iff {p a b : Pt} : onB p a b = true ↔ turnP a b p = 0 ∧ boxP p a b := by
  simp [onB, inI', boxP, and_assoc]
/-- the crossing's point, weighed -/
theorem crossX (a b c d : Pt) : turnP c d a * b.x - turnP c d b * a.x = turnP a b d * c.x - turnP a b c * d.x := by unfold turnP; grind

theorem crossY (a b c d : Pt) : turnP c d a * b.y - turnP c d b * a.y = turnP a b d * c.y - turnP a b c * d.y := by unfold turnP; grind

theorem crossS (a b c d : Pt) : turnP c d a - turnP c d b = turnP a b d - turnP a b c := by unfold turnP; grind

theorem sideX (a b c d : Pt) : turnP c d a * (b.x - c.x) - turnP c d b * (a.x - c.x) = (d.x - c.x) * -turnP a b c := by unfold turnP; grind

theorem sideY (a b c d : Pt) : turnP c d a * (b.y - c.y) - turnP c d b * (a.y - c.y) = (d.y - c.y) * -turnP a b c := by unfold turnP; grind

theorem across_iff {m n : Int} : acrossB m n = true ↔ (m ≤ 0 ∨ n ≤ 0) ∧ (0 ≤ m ∨ 0 ≤ n) := by
  simp only [acrossB, Bool.and_eq_true, decide_eq_true_eq]; omega

theorem apart_iff {a b c d : Int} : apartI a b c d = false ↔ min c d ≤ max a b ∧ min a b ≤ max c d := by
  simp only [apartI, Bool.or_eq_false_iff, decide_eq_false_iff_not]; omega

theorem meetM_iff {a b c d : Pt} : meetM a b c d = true ↔ ((min c.x d.x ≤ max a.x b.x ∧ min a.x b.x ≤ max c.x d.x) ∧ min c.y d.y ≤ max a.y b.y ∧ min a.y b.y ≤ max c.y d.y) ∧
    ((turnP a b c ≤ 0 ∨ turnP a b d ≤ 0) ∧ (0 ≤ turnP a b c ∨ 0 ≤ turnP a b d)) ∧ ((turnP c d a ≤ 0 ∨ turnP c d b ≤ 0) ∧ (0 ≤ turnP c d a ∨ 0 ≤ turnP c d b)) := by
  unfold meetM
  rw [Bool.and_eq_true, Bool.and_eq_true, across_iff, across_iff, Bool.not_eq_true', Bool.or_eq_false_iff, apart_iff, apart_iff]

theorem par_zero {p q u v : Int} (h : p * v = q * u) (hs : 0 < u ∧ 0 < v ∨ u < 0 ∧ v < 0) (ha : (p ≤ 0 ∨ q ≤ 0) ∧ (0 ≤ p ∨ 0 ≤ q)) : p = 0 ∧ q = 0 := by
  have e1 : 0 < v → 0 < p → 0 < p * v := fun h1 h2 => Int.mul_pos h2 h1
  have e2 : 0 < v → p < 0 → p * v < 0 := fun h1 h2 => Int.mul_neg_of_neg_of_pos h2 h1
  have e3 : v < 0 → 0 < p → p * v < 0 := fun h1 h2 => Int.mul_neg_of_pos_of_neg h2 h1
  have e4 : v < 0 → p < 0 → 0 < p * v := fun h1 h2 => Int.mul_pos_of_neg_of_neg h2 h1
  have f1 : 0 < u → 0 < q → 0 < q * u := fun h1 h2 => Int.mul_pos h2 h1
  have f2 : 0 < u → q < 0 → q * u < 0 := fun h1 h2 => Int.mul_neg_of_neg_of_pos h2 h1
  have f3 : u < 0 → 0 < q → q * u < 0 := fun h1 h2 => Int.mul_neg_of_pos_of_neg h2 h1
  have f4 : u < 0 → q < 0 → 0 < q * u := fun h1 h2 => Int.mul_pos_of_neg_of_neg h2 h1
  have z1 : p = 0 → p * v = 0 := fun e => by rw [e, Int.zero_mul]
  have z2 : q = 0 → q * u = 0 := fun e => by rw [e, Int.zero_mul]
  generalize p * v = s at *
  generalize q * u = t at *
  omega
/-- on a line that is not upright, who is between in x is between in y -/
theorem line_box {a b p : Pt} (h : turnP a b p = 0) (hx : a.x ≠ b.x) (h1 : min a.x b.x ≤ p.x) (h2 : p.x ≤ max a.x b.x) : boxP p a b := by
  refine ⟨⟨h1, h2⟩, ?_⟩
  have e : (b.x - a.x) * (p.y - a.y) = (p.x - a.x) * (b.y - a.y) := by unfold turnP at h; grind
  have e' : (b.x - a.x) * (b.y - p.y) = (b.x - p.x) * (b.y - a.y) := by grind
  -- signs
  rcases Int.lt_or_gt_of_ne hx with hl | hl
  · have hp : 0 < b.x - a.x := by omega
    have hq : 0 ≤ p.x - a.x := by omega
    have hr : 0 ≤ b.x - p.x := by omega
    rcases Int.le_total 0 (b.y - a.y) with hy | hy
    · have k1 : 0 ≤ (b.x - a.x) * (p.y - a.y) := by rw [e]; exact Int.mul_nonneg hq hy
      have k2 : 0 ≤ (b.x - a.x) * (b.y - p.y) := by rw [e']; exact Int.mul_nonneg hr hy
      have j1 := Int.le_of_mul_le_mul_left (a := b.x - a.x) (b := 0) (c := p.y - a.y) (by simpa using k1) hp
      have j2 := Int.le_of_mul_le_mul_left (a := b.x - a.x) (b := 0) (c := b.y - p.y) (by simpa using k2) hp
      omega
    · have k1 : (b.x - a.x) * (p.y - a.y) ≤ 0 := by rw [e]; exact Int.mul_nonpos_of_nonneg_of_nonpos hq hy
      have k2 : (b.x - a.x) * (b.y - p.y) ≤ 0 := by rw [e']; exact Int.mul_nonpos_of_nonneg_of_nonpos hr hy
      have j1 := Int.le_of_mul_le_mul_left (a := b.x - a.x) (c := 0) (b := p.y - a.y) (by simpa using k1) hp
      have j2 := Int.le_of_mul_le_mul_left (a := b.x - a.x) (c := 0) (b := b.y - p.y) (by simpa using k2) hp
      omega
  · have hp : 0 < a.x - b.x := by omega
    have hq : 0 ≤ a.x - p.x := by omega
    have hr : 0 ≤ p.x - b.x := by omega
    have e2 : (a.x - b.x) * (p.y - a.y) = (a.x - p.x) * (b.y - a.y) := by grind
    have e3 : (a.x - b.x) * (b.y - p.y) = (p.x - b.x) * (b.y - a.y) := by grind
    rcases Int.le_total 0 (b.y - a.y) with hy | hy
    · have k1 : 0 ≤ (a.x - b.x) * (p.y - a.y) := by rw [e2]; exact Int.mul_nonneg hq hy
      have k2 : 0 ≤ (a.x - b.x) * (b.y - p.y) := by rw [e3]; exact Int.mul_nonneg hr hy
      have j1 := Int.le_of_mul_le_mul_left (a := a.x - b.x) (b := 0) (c := p.y - a.y) (by simpa using k1) hp
      have j2 := Int.le_of_mul_le_mul_left (a := a.x - b.x) (b := 0) (c := b.y - p.y) (by simpa using k2) hp
      omega
    · have k1 : (a.x - b.x) * (p.y - a.y) ≤ 0 := by rw [e2]; exact Int.mul_nonpos_of_nonneg_of_nonpos hq hy
      have k2 : (a.x - b.x) * (b.y - p.y) ≤ 0 := by rw [e3]; exact Int.mul_nonpos_of_nonneg_of_nonpos hr hy
      have j1 := Int.le_of_mul_le_mul_left (a := a.x - b.x) (c := 0) (b := p.y - a.y) (by simpa using k1) hp
      have j2 := Int.le_of_mul_le_mul_left (a := a.x - b.x) (c := 0) (b := b.y - p.y) (by simpa using k2) hp
      omega

def swp (p : Pt) : Pt := ⟨p.y, p.x⟩

theorem turn_swp (a b c : Pt) : turnP (swp a) (swp b) (swp c) = -turnP a b c := by unfold turnP swp; grind

theorem box_swp (a b c : Pt) : boxP (swp a) (swp b) (swp c) ↔ boxP a b c := by unfold boxP swp; simp only; omega

theorem line_boxY {a b p : Pt} (h : turnP a b p = 0) (hx : a.y ≠ b.y) (h1 : min a.y b.y ≤ p.y) (h2 : p.y ≤ max a.y b.y) : boxP p a b :=
  (box_swp p a b).1 (line_box (a := swp a) (b := swp b) (p := swp p) (by rw [turn_swp, h]; rfl) hx h1 h2)

theorem turn_zero_x {a b p : Pt} (h : turnP a b p = 0) (hx : a.x = b.x) (hy : a.y ≠ b.y) : p.x = a.x := by
  have : (b.y - a.y) * (p.x - a.x) = 0 := by unfold turnP at h; rw [hx] at h ⊢; grind
  rcases Int.mul_eq_zero.1 this with e | e <;> omega

theorem lap_mid {a b c d : Int} (h : min c d ≤ max a b ∧ min a b ≤ max c d) (h1 : ¬ (min a b ≤ c ∧ c ≤ max a b)) (h2 : ¬ (min a b ≤ d ∧ d ≤ max a b)) : min c d ≤ a ∧ a ≤ max c d := by omega
/-- four points on one line whose boxes meet -/
theorem line_four {a b c d : Pt} (h1 : turnP a b c = 0) (h2 : turnP a b d = 0) (h3 : turnP c d a = 0) (h4 : turnP c d b = 0)
    (hx : min c.x d.x ≤ max a.x b.x ∧ min a.x b.x ≤ max c.x d.x) (hy : min c.y d.y ≤ max a.y b.y ∧ min a.y b.y ≤ max c.y d.y) :
    boxP a c d ∨ boxP b c d ∨ boxP c a b ∨ boxP d a b := by
  by_cases ab : a.x = b.x
  · by_cases ab' : a.y = b.y
    · left; unfold boxP; omega
    · have e1 := turn_zero_x h1 ab ab'
      have e2 := turn_zero_x h2 ab ab'
      unfold boxP
      omega
  · -- the line is not upright
    by_cases cd : c.x = d.x
    · by_cases cd' : c.y = d.y
      · right; right; left; unfold boxP; omega
      · have e3 := turn_zero_x h3 cd cd'
        have e4 := turn_zero_x h4 cd cd'
        omega
    · have k1 := @line_box a b c h1 ab
      have k2 := @line_box a b d h2 ab
      have k3 := @line_box c d a h3 cd
      have k4 := @line_box c d b h4 cd
      by_cases q1 : min a.x b.x ≤ c.x ∧ c.x ≤ max a.x b.x
      · exact .inr (.inr (.inl (k1 q1.1 q1.2)))
      · by_cases q2 : min a.x b.x ≤ d.x ∧ d.x ≤ max a.x b.x
        · exact .inr (.inr (.inr (k2 q2.1 q2.2)))
        · exact .inl (k3 (lap_mid hx q1 q2).1 (lap_mid hx q1 q2).2)

theorem off_range {a b c : Int} (h : ¬ (min a b ≤ c ∧ c ≤ max a b)) : 0 < a - c ∧ 0 < b - c ∨ a - c < 0 ∧ b - c < 0 := by omega

theorem neg_acr {m n : Int} (h : (m ≤ 0 ∨ n ≤ 0) ∧ (0 ≤ m ∨ 0 ≤ n)) : (-m ≤ 0 ∨ -n ≤ 0) ∧ (0 ≤ -m ∨ 0 ≤ -n) := by omega

theorem acr_strict {m n : Int} (h : (m ≤ 0 ∨ n ≤ 0) ∧ (0 ≤ m ∨ 0 ≤ n)) (hm : ¬ m = 0) (hn : ¬ n = 0) : m < 0 ∧ 0 < n ∨ 0 < m ∧ n < 0 := by omega

theorem lap_swap {a b c d : Int} (h : min c d ≤ max a b ∧ min a b ≤ max c d) : min a b ≤ max c d ∧ min c d ≤ max a b := by omega

theorem lap_flip {a b c d : Int} (h : min c d ≤ max a b ∧ min a b ≤ max c d) : min d c ≤ max a b ∧ min a b ≤ max d c := by omega

theorem neg_zero_of {m : Int} (h : -m = 0) : m = 0 := by omega
/-- a corner on the other's line -/
theorem meet_zero {a b c d : Pt} (h1 : turnP a b c = 0)
    (hx : min c.x d.x ≤ max a.x b.x ∧ min a.x b.x ≤ max c.x d.x) (hy : min c.y d.y ≤ max a.y b.y ∧ min a.y b.y ≤ max c.y d.y)
    (ha : (turnP c d a ≤ 0 ∨ turnP c d b ≤ 0) ∧ (0 ≤ turnP c d a ∨ 0 ≤ turnP c d b)) :
    boxP c a b ∨ (turnP c d a = 0 ∧ boxP a c d) ∨ (turnP c d b = 0 ∧ boxP b c d) ∨ (turnP a b d = 0 ∧ boxP d a b) := by
  by_cases hb : boxP c a b
  · exact .inl hb
  · have hX := sideX a b c d
    have hY := sideY a b c d
    rw [h1] at hX hY
    simp only [Int.neg_zero, Int.mul_zero] at hX hY
    have hz : turnP c d a = 0 ∧ turnP c d b = 0 := by
      unfold boxP at hb
      by_cases hxx : min a.x b.x ≤ c.x ∧ c.x ≤ max a.x b.x
      · exact par_zero (u := a.y - c.y) (v := b.y - c.y) (Int.sub_eq_zero.1 hY) (off_range (fun e => hb ⟨hxx, e⟩)) ha
      · exact par_zero (u := a.x - c.x) (v := b.x - c.x) (Int.sub_eq_zero.1 hX) (off_range hxx) ha
    have h2 : turnP a b d = 0 := by have := crossS a b c d; omega
    rcases line_four h1 h2 hz.1 hz.2 hx hy with h | h | h | h
    · exact .inr (.inl ⟨hz.1, h⟩)
    · exact .inr (.inr (.inl ⟨hz.2, h⟩))
    · exact .inl h
    · exact .inr (.inr (.inr ⟨h2, h⟩))

theorem meetM_sym (a b c d : Pt) : meetM a b c d = true ↔ meetM c d a b = true := by rw [meetM_iff, meetM_iff]; omega

theorem turn_flip (a b c : Pt) : turnP b a c = -turnP a b c := by unfold turnP; grind

theorem meetM_flip (a b c d : Pt) : meetM a b c d = true ↔ meetM b a c d = true := by
  rw [meetM_iff, meetM_iff, turn_flip a b c, turn_flip a b d]; omega
/-- two ways with a point in common, as the reference sees it -/
theorem meet_on {a b c d : Pt} (h : turnP c d a = 0) (hb : boxP a c d) : meetM a b c d = true := by
  rw [meetM_iff]
  have hX := sideX c d a b
  have hY := sideY c d a b
  rw [h] at hX hY
  simp only [Int.neg_zero, Int.mul_zero] at hX hY
  unfold boxP at hb
  refine ⟨by omega, ?_, by omega⟩
  -- c and d on both sides of a
  by_cases h0 : turnP a b c ≤ 0 ∧ turnP a b d ≤ 0 ∨ True
  · have hA : ∀ p q u v : Int, p * v - q * u = 0 → (u ≤ 0 ∧ 0 ≤ v ∨ v ≤ 0 ∧ 0 ≤ u) → (u ≠ 0 ∨ v ≠ 0) → (p ≤ 0 ∨ q ≤ 0) ∧ (0 ≤ p ∨ 0 ≤ q) := by
      intro p q u v e hs hn
      have e1 : 0 < v → 0 < p → 0 < p * v := fun h1 h2 => Int.mul_pos h2 h1
      have e2 : 0 < v → p < 0 → p * v < 0 := fun h1 h2 => Int.mul_neg_of_neg_of_pos h2 h1
      have e3 : v < 0 → 0 < p → p * v < 0 := fun h1 h2 => Int.mul_neg_of_pos_of_neg h2 h1
      have e4 : v < 0 → p < 0 → 0 < p * v := fun h1 h2 => Int.mul_pos_of_neg_of_neg h2 h1
      have f1 : 0 < u → 0 < q → 0 < q * u := fun h1 h2 => Int.mul_pos h2 h1
      have f2 : 0 < u → q < 0 → q * u < 0 := fun h1 h2 => Int.mul_neg_of_neg_of_pos h2 h1
      have f3 : u < 0 → 0 < q → q * u < 0 := fun h1 h2 => Int.mul_neg_of_pos_of_neg h2 h1
      have f4 : u < 0 → q < 0 → 0 < q * u := fun h1 h2 => Int.mul_pos_of_neg_of_neg h2 h1
      have z1 : v = 0 → p * v = 0 := fun e => by rw [e, Int.mul_zero]
      have z2 : u = 0 → q * u = 0 := fun e => by rw [e, Int.mul_zero]
      generalize p * v = s at *
      generalize q * u = t at *
      omega
    by_cases hxx : c.x = a.x ∧ d.x = a.x
    · by_cases hyy : c.y = a.y ∧ d.y = a.y
      · have e1 : turnP a b c = 0 := by unfold turnP; rw [hxx.1, hyy.1]; grind
        have e2 : turnP a b d = 0 := by unfold turnP; rw [hxx.2, hyy.2]; grind
        omega
      · exact hA _ _ _ _ hY (by omega) (by omega)
    · exact hA _ _ _ _ hX (by omega) (by omega)
  · exact absurd (.inr trivial) h0

theorem mul_le_of_pos {s u v : Int} (hs : 0 < s) (h : u ≤ v) : s * u ≤ s * v := Int.mul_le_mul_of_nonneg_left h (by omega)
/-- ways that cross have boxes that meet (one coordinate) -/
theorem cross_lap {p q r s a b c d : Int} (e : p * b - q * a = s * c - r * d) (es : p - q = s - r) (h1 : 0 < p ∧ q < 0) (h2 : 0 < s ∧ r < 0) : min c d ≤ max a b ∧ min a b ≤ max c d := by
  have k1 : p * min a b ≤ p * b := mul_le_of_pos h1.1 (by omega)
  have k2 : -q * min a b ≤ -q * a := mul_le_of_pos (by omega) (by omega)
  have k3 : p * b ≤ p * max a b := mul_le_of_pos h1.1 (by omega)
  have k4 : -q * a ≤ -q * max a b := mul_le_of_pos (by omega) (by omega)
  have j1 : s * min c d ≤ s * c := mul_le_of_pos h2.1 (by omega)
  have j2 : -r * min c d ≤ -r * d := mul_le_of_pos (by omega) (by omega)
  have j3 : s * c ≤ s * max c d := mul_le_of_pos h2.1 (by omega)
  have j4 : -r * d ≤ -r * max c d := mul_le_of_pos (by omega) (by omega)
  have A : (p - q) * min a b ≤ (p - q) * max c d := by
    have x1 : (p - q) * min a b = p * min a b + -q * min a b := by grind
    have x2 : (p - q) * max c d = s * max c d + -r * max c d := by rw [es]; grind
    have y1 : -q * a = -(q * a) := by grind
    have y2 : -r * d = -(r * d) := by grind
    omega
  have B : (p - q) * min c d ≤ (p - q) * max a b := by
    have x1 : (p - q) * max a b = p * max a b + -q * max a b := by grind
    have x2 : (p - q) * min c d = s * min c d + -r * min c d := by rw [es]; grind
    have y1 : -q * a = -(q * a) := by grind
    have y2 : -r * d = -(r * d) := by grind
    omega
  exact ⟨Int.le_of_mul_le_mul_left B (by omega), Int.le_of_mul_le_mul_left A (by omega)⟩

theorem meet_cross {a b c d : Pt} (h1 : turnP a b c < 0 ∧ 0 < turnP a b d ∨ 0 < turnP a b c ∧ turnP a b d < 0) (h2 : turnP c d a < 0 ∧ 0 < turnP c d b ∨ 0 < turnP c d a ∧ turnP c d b < 0) : meetM a b c d = true := by
  rw [meetM_iff]
  have eX := crossX a b c d
  have eY := crossY a b c d
  have eS := crossS a b c d
  refine ⟨?_, by omega, by omega⟩
  rcases h2 with h2 | h2
  · have h1' : 0 < turnP a b c ∧ turnP a b d < 0 := by omega
    have x := cross_lap (p := turnP c d b) (q := turnP c d a) (r := turnP a b d) (s := turnP a b c) (a := b.x) (b := a.x) (c := d.x) (d := c.x) (by omega) (by omega) (by omega) (by omega)
    have y := cross_lap (p := turnP c d b) (q := turnP c d a) (r := turnP a b d) (s := turnP a b c) (a := b.y) (b := a.y) (c := d.y) (d := c.y) (by omega) (by omega) (by omega) (by omega)
    omega
  · have h1' : turnP a b c < 0 ∧ 0 < turnP a b d := by omega
    exact ⟨cross_lap eX eS (by omega) (by omega), cross_lap eY eS (by omega) (by omega)⟩

def crossB (m n : Int) : Bool := decide (m < 0 ∧ 0 < n ∨ 0 < m ∧ n < 0)

def meetR (a b c d : Pt) : Bool := (onB a c d || onB b c d || onB c a b || onB d a b) || (crossB (turnP a b c) (turnP a b d) && crossB (turnP c d a) (turnP c d b))

theorem box_flip {p a b : Pt} : boxP p b a ↔ boxP p a b := by unfold boxP; omega

theorem meetM_eq (a b c d : Pt) : meetM a b c d = meetR a b c d := by
  rw [Bool.eq_iff_iff]
  constructor
  · intro h
    rw [meetM_iff] at h
    unfold meetR
    simp only [Bool.or_eq_true, Bool.and_eq_true, onB_iff, crossB, decide_eq_true_eq]
    obtain ⟨⟨hx, hy⟩, h1, h2⟩ := h
    by_cases z1 : turnP a b c = 0
    · rcases meet_zero z1 hx hy h2 with h | h | h | h
      · exact .inl (.inl (.inr ⟨z1, h⟩))
      · exact .inl (.inl (.inl (.inl h)))
      · exact .inl (.inl (.inl (.inr h)))
      · exact .inl (.inr h)
    by_cases z2 : turnP a b d = 0
    · have := meet_zero (a := a) (b := b) (c := d) (d := c) z2 (lap_flip hx) (lap_flip hy) (by rw [turn_flip c d a, turn_flip c d b]; exact neg_acr h2)
      rw [turn_flip c d a, turn_flip c d b] at this
      rcases this with h | h | h | h
      · exact .inl (.inr ⟨z2, h⟩)
      · exact .inl (.inl (.inl (.inl ⟨neg_zero_of h.1, box_flip.1 h.2⟩)))
      · exact .inl (.inl (.inl (.inr ⟨neg_zero_of h.1, box_flip.1 h.2⟩)))
      · exact .inl (.inl (.inr h))
    by_cases z3 : turnP c d a = 0
    · rcases meet_zero (a := c) (b := d) (c := a) (d := b) z3 (lap_swap hx) (lap_swap hy) h1 with h | h | h | h
      · exact .inl (.inl (.inl (.inl ⟨z3, h⟩)))
      · exact .inl (.inl (.inr h))
      · exact .inl (.inr h)
      · exact .inl (.inl (.inl (.inr h)))
    by_cases z4 : turnP c d b = 0
    · have := meet_zero (a := c) (b := d) (c := b) (d := a) z4 (lap_flip (lap_swap hx)) (lap_flip (lap_swap hy)) (by rw [turn_flip a b c, turn_flip a b d]; exact neg_acr h1)
      rw [turn_flip a b c, turn_flip a b d] at this
      rcases this with h | h | h | h
      · exact .inl (.inl (.inl (.inr ⟨z4, h⟩)))
      · exact .inl (.inl (.inr ⟨neg_zero_of h.1, box_flip.1 h.2⟩))
      · exact .inl (.inr ⟨neg_zero_of h.1, box_flip.1 h.2⟩)
      · exact .inl (.inl (.inl (.inl h)))
    exact .inr ⟨acr_strict h1 z1 z2, acr_strict h2 z3 z4⟩
  · intro h
    unfold meetR at h
    simp only [Bool.or_eq_true, Bool.and_eq_true, onB_iff, crossB, decide_eq_true_eq] at h
    rcases h with (((h | h) | h) | h) | h
    · exact meet_on h.1 h.2
    · exact (meetM_flip _ _ _ _).1 (meet_on h.1 h.2)
    · exact (meetM_sym _ _ _ _).1 (meet_on h.1 h.2)
    · exact (meetM_sym _ _ _ _).1 ((meetM_flip _ _ _ _).1 (meet_on h.1 h.2))
    · exact meet_cross h.1 h.2

theorem onB_flip (p a b : Pt) : onB p a b = onB p b a := by
  rw [Bool.eq_iff_iff, onB_iff, onB_iff, turn_flip a b p, box_flip (p := p) (a := b) (b := a)]
  constructor
  · exact fun h => ⟨by omega, h.2⟩
  · exact fun h => ⟨by omega, h.2⟩
/-- the reference's test of two sides of a ring, k before i -/
def refT (r : List Pt) (i k : Nat) : Bool :=
  if k + 1 = i then onB (cor r k) (cor r i) (cor r (i + 1)) || onB (cor r (i + 1)) (cor r k) (cor r (k + 1))
  else if k = 0 ∧ i + 1 = r.length then onB (cor r i) (cor r k) (cor r (k + 1)) || onB (cor r (k + 1)) (cor r i) (cor r (i + 1))
  else meetR (cor r i) (cor r (i + 1)) (cor r k) (cor r (k + 1))

def refI (r : List Pt) (i : Nat) : Bool := (List.range i).any (refT r i)

def refS (r : List Pt) : Int := if (List.range r.length).any (refI r) then 13 else 0

theorem cor_mod (r : List Pt) (i : Nat) : cor r (i + r.length) = cor r i := by unfold cor; rw [Nat.add_mod_right]

theorem cor_len (r : List Pt) : cor r r.length = cor r 0 := by have := cor_mod r 0; rwa [Nat.zero_add] at this

/-- the reference's fault of a ring -/
def ringR (r : List Pt) : Int := if r.length < 3 then 3 else if 500 < r.length then 2 else if r.any farP then 1 else if twiceB r then 6 else refS r

end Go.Bl

namespace Go.Bl
open Go
/-- the first place behind n / d, or at it -/
def ceilQ (n d : Int) : Int := -((-n) / d)

/-- the middle of a column or row -/
def midI (X step j : Int) : Int := (X + j) * step + step / 2

def colN (X step num den : Int) : Int := num - (X * step + step / 2) * den

def colC (X step W num den : Int) : Int := max 0 (min (ceilQ (colN X step num den) (den * step)) W)

def colJ (X step W num den : Int) : Bool := decide (ceilQ (colN X step num den) (den * step) * den * step = colN X step num den) && decide (0 ≤ ceilQ (colN X step num den) (den * step)) && decide (ceilQ (colN X step num den) (den * step) < W)
variable {X step W num den j : Int}

/-- behind the last column of a mark -/
def colL (X step W num den : Int) : Int := if colJ X step W num den then colC X step W num den + 1 else colC X step W num den

/-! one row: its middle c; the middle of a column: u -/

def lowS (s : Sid) : Pt := if s.a.y > s.b.y then s.b else s.a

def hiS (s : Sid) : Pt := if s.a.y > s.b.y then s.a else s.b

def acrS (s : Sid) (c : Int) : Bool := decide (s.a.y > c) != decide (s.b.y > c)

def numS (s : Sid) (c : Int) : Int := (lowS s).x * ((hiS s).y - (lowS s).y) + (c - (lowS s).y) * ((hiS s).x - (lowS s).x)

def denS (s : Sid) : Int := (hiS s).y - (lowS s).y

/-- level sides and corners in the middle of a row -/
def markS (s : Sid) (c u : Int) : Bool := decide (s.a.y = c) && (if s.b.y = c then decide (min s.a.x s.b.x ≤ u) && decide (u ≤ max s.a.x s.b.x) else decide (s.a.x = u))

def touchS (s : Sid) (c u : Int) : Bool := acrS s c && decide (numS s c = u * denS s)

def hitS (s : Sid) (c u : Int) : Bool := markS s c u || touchS s c u

def oddS (s : Sid) (c u : Int) : Bool := acrS s c && decide (u * denS s < numS s c)

def anyL (f : Sid → Bool) (l : List Sid) : Bool := l.any f

def parL (f : Sid → Bool) (l : List Sid) : Bool := l.foldl (fun b s => b ^^ f s) false

/-! what the document says -/

def onAny (rs : List (List Pt)) (p : Pt) : Bool := (sidesK rs rs.length).any fun s => onB p s.a s.b

def parR (rs : List (List Pt)) (p : Pt) : Nat → Bool
  | 0 => false
  | k + 1 => parR rs p k ^^ isInF (rs.getD k []) p
/-- a point in a region: 1 inside, 0 on a side, -1 outside -/
def insF (rs : List (List Pt)) (p : Pt) : Int := if onAny rs p then 0 else if parR rs p rs.length then 1 else -1

def covB (rs : List (List Pt)) (p : Pt) : Bool := onAny rs p || parR rs p rs.length

/-! the toggles of a row -/
/-- how often a column is toggled by sides -/
def togN (X step W c : Int) (l : List Sid) (m : Nat) : Nat := (l.filter fun s => acrS s c && decide (colC X step W (numS s c) (denS s) = (m : Int))).length

/-- the sum of the toggles of the last n columns of W + 1 -/
def sumT (f : Nat → Nat) (W : Nat) : Nat → Nat
  | 0 => 0
  | n + 1 => sumT f W n + f (W - n)

end Go.Bl

namespace Go.Bl
open Go

theorem cor_all {r : List Pt} {P : Pt → Prop} (h0 : 0 < r.length) (h : ∀ p ∈ r, P p) (i : Nat) : P (cor r i) := by
  unfold cor
  have hi : i % r.length < r.length := Nat.mod_lt _ h0
  rw [List.getD_eq_getElem?_getD, List.getElem?_eq_getElem hi]
  exact h _ (List.getElem_mem hi)

theorem isInK_of {r : List Pt} {p : Pt} (h : ∀ i, crossG r p i = false) : ∀ k, isInK r p k = false
  | 0 => rfl
  | k + 1 => by show (if crossG r p k then _ else _) = _; rw [h k, isInK_of h k]; rfl

theorem isInK_tel {r : List Pt} {p : Pt} (h : ∀ i, crossG r p i = (decide ((cor r i).y > p.y) != decide ((cor r (i + 1)).y > p.y))) : ∀ k, isInK r p k = (decide ((cor r 0).y > p.y) != decide ((cor r k).y > p.y))
  | 0 => by simp [isInK]
  | k + 1 => by
    show (if crossG r p k then _ else _) = _
    rw [h k, isInK_tel h k]
    cases decide ((cor r 0).y > p.y) <;> cases decide ((cor r k).y > p.y) <;> cases decide ((cor r (k + 1)).y > p.y) <;> rfl

theorem far_turn {a b p : Pt} (ha : a.y ≤ p.y) (hb : p.y < b.y) (h1 : a.x < p.x) (h2 : b.x < p.x) : turnP a b p < 0 := by
  have e : turnP a b p = -((p.x - b.x) * (p.y - a.y) + (p.x - a.x) * (b.y - p.y)) := by unfold turnP; grind
  have k1 : 0 ≤ (p.x - b.x) * (p.y - a.y) := Int.mul_nonneg (by omega) (by omega)
  have k2 : 0 < (p.x - a.x) * (b.y - p.y) := Int.mul_pos (by omega) (by omega)
  omega

theorem near_turn {a b p : Pt} (ha : a.y ≤ p.y) (hb : p.y < b.y) (h1 : p.x < a.x) (h2 : p.x < b.x) : 0 < turnP a b p := by
  have e : turnP a b p = (b.x - p.x) * (p.y - a.y) + (a.x - p.x) * (b.y - p.y) := by unfold turnP; grind
  have k1 : 0 ≤ (b.x - p.x) * (p.y - a.y) := Int.mul_nonneg (by omega) (by omega)
  have k2 : 0 < (a.x - p.x) * (b.y - p.y) := Int.mul_pos (by omega) (by omega)
  omega
/-- a point beside all corners of a ring is not in it -/
theorem isIn_far {r : List Pt} {p : Pt} (h0 : 0 < r.length) (h : (∀ q ∈ r, q.x < p.x) ∨ (∀ q ∈ r, p.x < q.x) ∨ (∀ q ∈ r, q.y < p.y) ∨ (∀ q ∈ r, p.y < q.y)) : isInF r p = false := by
  unfold isInF
  rcases h with h | h | h | h
  · refine isInK_of (fun i => ?_) _
    have h1 := cor_all h0 h i
    have h2 := cor_all h0 h (i + 1)
    unfold crossG
    rcases Int.lt_or_le p.y (cor r i).y with ha | ha <;> rcases Int.lt_or_le p.y (cor r (i + 1)).y with hb | hb
    · simp [ha, hb]
    · have := far_turn hb ha h2 h1
      rw [turn_flip] at this
      have e1 : turnP (cor r i) (cor r (i + 1)) p > 0 := by omega
      have e2 : ¬ (cor r (i + 1)).y > (cor r i).y := by omega
      simp [e1, e2]
    · have := far_turn ha hb h1 h2
      have e1 : ¬ turnP (cor r i) (cor r (i + 1)) p > 0 := by omega
      have e2 : (cor r (i + 1)).y > (cor r i).y := by omega
      simp [e1, e2]
    · have e1 : ¬ (cor r i).y > p.y := by omega
      have e2 : ¬ (cor r (i + 1)).y > p.y := by omega
      simp [e1, e2]
  · have := isInK_tel (r := r) (p := p) (fun i => by
      have h1 := cor_all h0 h i
      have h2 := cor_all h0 h (i + 1)
      unfold crossG
      rcases Int.lt_or_le p.y (cor r i).y with ha | ha <;> rcases Int.lt_or_le p.y (cor r (i + 1)).y with hb | hb
      · simp [ha, hb]
      · have := near_turn hb ha h2 h1
        rw [turn_flip] at this
        have e1 : ¬ turnP (cor r i) (cor r (i + 1)) p > 0 := by omega
        have e2 : ¬ (cor r (i + 1)).y > (cor r i).y := by omega
        simp [e1, e2]
      · have := near_turn ha hb h1 h2
        have e1 : turnP (cor r i) (cor r (i + 1)) p > 0 := by omega
        have e2 : (cor r (i + 1)).y > (cor r i).y := by omega
        simp [e1, e2]
      · have e1 : ¬ (cor r i).y > p.y := by omega
        have e2 : ¬ (cor r (i + 1)).y > p.y := by omega
        simp [e1, e2]) r.length
    rw [this]
    have e : cor r r.length = cor r 0 := by have := cor_mod r 0; rwa [Nat.zero_add] at this
    rw [e]; simp
  · refine isInK_of (fun i => ?_) _
    have h1 := cor_all h0 h i
    have h2 := cor_all h0 h (i + 1)
    have e1 : ¬ (cor r i).y > p.y := by omega
    have e2 : ¬ (cor r (i + 1)).y > p.y := by omega
    unfold crossG
    simp [e1, e2]
  · refine isInK_of (fun i => ?_) _
    have h1 := cor_all h0 h i
    have h2 := cor_all h0 h (i + 1)
    unfold crossG
    simp [h1, h2]

theorem on_far {r : List Pt} {p : Pt} (h0 : 0 < r.length) (h : (∀ q ∈ r, q.x < p.x) ∨ (∀ q ∈ r, p.x < q.x) ∨ (∀ q ∈ r, q.y < p.y) ∨ (∀ q ∈ r, p.y < q.y)) (i : Nat) : onB p (cor r i) (cor r (i + 1)) = false := by
  rcases ho : onB p (cor r i) (cor r (i + 1)) with _ | _
  · rfl
  · exfalso
    rw [onB_iff] at ho
    obtain ⟨-, hb⟩ := ho
    unfold boxP at hb
    rcases h with h | h | h | h <;> have h1 := cor_all h0 h i <;> have h2 := cor_all h0 h (i + 1) <;> omega

theorem cov_far {rs : List (List Pt)} {p : Pt} (h0 : ∀ r ∈ rs, 0 < r.length)
    (h : (∀ r ∈ rs, ∀ q ∈ r, q.x < p.x) ∨ (∀ r ∈ rs, ∀ q ∈ r, p.x < q.x) ∨ (∀ r ∈ rs, ∀ q ∈ r, q.y < p.y) ∨ (∀ r ∈ rs, ∀ q ∈ r, p.y < q.y)) : covB rs p = false := by
  have hr : ∀ r ∈ rs, (∀ q ∈ r, q.x < p.x) ∨ (∀ q ∈ r, p.x < q.x) ∨ (∀ q ∈ r, q.y < p.y) ∨ (∀ q ∈ r, p.y < q.y) := fun r hr => by
    rcases h with h | h | h | h
    · exact .inl (h r hr)
    · exact .inr (.inl (h r hr))
    · exact .inr (.inr (.inl (h r hr)))
    · exact .inr (.inr (.inr (h r hr)))
  have hP : ∀ k, k ≤ rs.length → parR rs p k = false := by
    intro k
    induction k with
    | zero => intro _; rfl
    | succ k ih =>
      intro hk
      have hk' : k < rs.length := by omega
      have e : rs.getD k [] = rs[k] := by simp [List.getD, hk']
      show (parR rs p k ^^ isInF (rs.getD k []) p) = false
      rw [ih (by omega), e, isIn_far (h0 _ (List.getElem_mem hk')) (hr _ (List.getElem_mem hk'))]
      rfl
  have hO : onAny rs p = false := by
    rcases ho : onAny rs p with _ | _
    · rfl
    · exfalso
      simp only [onAny, List.any_eq_true] at ho
      obtain ⟨s, hs, ho⟩ := ho
      rw [mem_sidesK] at hs
      obtain ⟨i, hi, k, hk, rfl⟩ := hs
      have e : rs.getD i [] = rs[i] := by simp [List.getD, hi]
      rw [e] at ho
      have := on_far (h0 _ (List.getElem_mem hi)) (hr _ (List.getElem_mem hi)) k
      rw [this] at ho; cases ho
  rw [covB, hO, hP _ (Nat.le_refl _)]; rfl
/-- the middle of a cell -/
def cenI (step x : Int) : Int := x * step + step / 2

theorem cen_lt {step x q : Int} (hs : 2 ≤ step) (h : x < q / step) : cenI step x < q := by
  have h1 : (x + 1) * step ≤ q := (Int.le_ediv_iff_mul_le (by omega)).1 (by omega)
  rw [Int.add_mul, Int.one_mul] at h1
  unfold cenI
  omega

theorem cen_gt {step x q : Int} (hs : 2 ≤ step) (h : q / step < x) : q < cenI step x := by
  have h1 : q < x * step := Int.lt_mul_of_ediv_lt (by omega) h
  unfold cenI
  omega
/-- the corners of a region: their columns and rows -/
structure BoxR (rs : List (List Pt)) (step x0 y0 x1 y1 : Int) : Prop where
  ne : ∀ r ∈ rs, 0 < r.length
  st : 2 ≤ step
  x : ∀ r ∈ rs, ∀ q ∈ r, x0 ≤ q.x / step ∧ q.x / step ≤ x1
  y : ∀ r ∈ rs, ∀ q ∈ r, y0 ≤ q.y / step ∧ q.y / step ≤ y1

theorem BoxR.out {rs : List (List Pt)} {step x0 y0 x1 y1 x y : Int} (h : BoxR rs step x0 y0 x1 y1) (hn : ¬ (x0 ≤ x ∧ x ≤ x1 ∧ y0 ≤ y ∧ y ≤ y1)) : covB rs ⟨cenI step x, cenI step y⟩ = false := by
  refine cov_far h.ne ?_
  by_cases h1 : x < x0
  · exact .inr (.inl fun r hr q hq => cen_lt h.st (by have := h.x r hr q hq; omega))
  · by_cases h2 : x1 < x
    · exact .inl fun r hr q hq => cen_gt h.st (by have := h.x r hr q hq; omega)
    · by_cases h3 : y < y0
      · exact .inr (.inr (.inr fun r hr q hq => cen_lt h.st (by have := h.y r hr q hq; omega)))
      · exact .inr (.inr (.inl fun r hr q hq => cen_gt h.st (by have := h.y r hr q hq; omega)))

end Go.Bl

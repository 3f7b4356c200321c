/- Contracts of functions that this seat's laws reach, each: what one call returns and what it leaves in memory; no condition beyond each theorem's own hypotheses. -/
import Derived.Test.YtfleljmmfkkkpaaGreatDoorZqEvC
import Derived.Test.YtfleljmmfkkkpaaGreatDoorZqDrawB
import Derived.Test.YtfleljmmfkkkpaaGreatDoorZqChgA
set_option linter.unusedVariables false
set_option linter.unusedSimpArgs false
namespace Go.Proofs.YtfleljmmfkkkpaaGreatDoor
open Go Go.RowKit Go.Bl

theorem byte_ext {s t : ByteArray} (h : s.data.toList = t.data.toList) : s = t := by
  cases s; cases t; simp only [ByteArray.mk.injEq]; exact Array.toList_inj.1 h

theorem strEqB (s t : ByteArray) : (s.toList == t.toList) = decide (s = t) := by
  rw [Lib.toList_data, Lib.toList_data, Bool.eq_iff_iff, beq_iff_eq, decide_eq_true_eq]
  exact ⟨byte_ext, fun e => by rw [e]⟩

set_option maxHeartbeats 1000000 in
theorem indexStr_any (A : Option Addr) (n c : Nat) (l : List ByteArray) (s : ByteArray) (w : World) (hl : Sl w 0 A l) (hn : l.length = n) :
    Calls Tryz.prog 49 #[.slice A n c, .string s] w fun e w' => ∃ r : Int, e = .returned (.int .i64 r) ∧ ((∃ k : Nat, r = k ∧ ∃ h : k < l.length, l[k] = s) ∨ (r = -1 ∧ ∀ x ∈ l, x ≠ s)) ∧ w.grownBy w' none := by
  subst hn
  have hm := hl.1
  unfold maxLen at hm
  go_enter Tryz.func49, Tryz.ntmps49
  go_wp2_with fail
  go_loopw [8] (fun i wr => ∃ k : Nat, k ≤ l.length ∧ i = .int .i64 k ∧ w.grownBy wr none ∧ Hid (∀ x ∈ l.take k, x ≠ s)) (fun i _ => l.length - (intOf i).toNat)
  case atStart => exact ⟨0, Nat.zero_le _, rfl, World.grownBy.refl _ _, by simp [Hid]⟩
  case round =>
    obtain ⟨k, hk, rfl, hg, hall⟩ := hrel
    by_cases hlt : k < l.length
    · obtain ⟨g, o, cx, rfl, hb0, hb1, rfl, hc⟩ := (hl.pure hg).at_ (by decide) hlt
      have c0 : wr.cell? ⟨g, o + k, none⟩ = some (.string l[k]) := by have := hc 0 _ rfl; rwa [show Enc.sz ByteArray = 1 from rfl, Nat.mul_one] at this
      clear hc
      have hq := strEqB s l[k]
      have hhit : Hid (s = l[k] → ∃ h : k < l.length, l[k] = s) := fun e => ⟨hlt, e.symm⟩
      have hnx : Hid (s ≠ l[k] → ∀ x ∈ l.take (k + 1), x ≠ s) := fun hne x hx => by
        rw [take_snoc hlt, List.mem_append, List.mem_singleton] at hx
        rcases hx with h | rfl
        · exact hall.out x h
        · exact hne.symm
      clear hall
      by_cases e : s = l[k]
      · have hR := hide (hhit.out e)
        rw [decide_eq_true e] at hq
        generalize l[k] = x at *
        clear hhit hnx e
        go_wp2_with fail
        go_ret
        exact ⟨k, rfl, .inl ⟨k, rfl, by obtain ⟨h, e⟩ := hR.out; exact ⟨h, by assumption⟩⟩, hg⟩
      · have hR := hide (hnx.out e)
        rw [decide_eq_false e] at hq
        generalize l[k] = x at *
        clear hhit hnx e
        go_wp2_with fail
        (go_roundw; (case rel => exact ⟨k + 1, by omega, by go_num, hg, hR⟩); (case measure => simp [intOf]; omega))
    · obtain rfl : k = l.length := by omega
      have hR := hall.out
      rw [List.take_length] at hR
      replace hR := hide hR
      clear hall
      go_wp2_with fail
      go_ret
      exact ⟨-1, rfl, .inr ⟨rfl, hR.out⟩, hg⟩

theorem kw_fin : ∀ k : Fin kwB.length, k.val ≠ 0 → (k.val : Int) = kindOf (kwB[k.val]'k.isLt).data.toList := by decide

theorem kind_ix {s : ByteArray} {r : Int} (h0 : s.data.toList ≠ []) (h : (∃ k : Nat, r = k ∧ ∃ h : k < kwB.length, kwB[k] = s) ∨ (r = -1 ∧ ∀ x ∈ kwB, x ≠ s)) : r = kindOf s.data.toList := by
  rcases h with ⟨k, rfl, hk, rfl⟩ | ⟨rfl, h⟩
  · by_cases hz : k = 0
    · subst hz; exact absurd rfl h0
    · exact kw_fin ⟨k, hk⟩ hz
  · have hn : ∀ x ∈ kwB, ¬ s.data.toList = x.data.toList := fun x hx e => h x hx (byte_ext e.symm)
    have n1 : ¬ s.data.toList = kw 1 := hn ⟨#[115, 116, 97, 114, 116]⟩ (by simp [kwB])
    have n2 : ¬ s.data.toList = kw 2 := hn ⟨#[100, 111, 110, 101]⟩ (by simp [kwB])
    have n3 : ¬ s.data.toList = kw 3 := hn ⟨#[102, 97, 105, 108]⟩ (by simp [kwB])
    have n4 : ¬ s.data.toList = kw 4 := hn ⟨#[99, 104, 97, 110, 103, 101]⟩ (by simp [kwB])
    have n5 : ¬ s.data.toList = kw 5 := hn ⟨#[115, 116, 111, 112]⟩ (by simp [kwB])
    have n6 : ¬ s.data.toList = kw 6 := hn ⟨#[115, 101, 114, 118, 101]⟩ (by simp [kwB])
    unfold kindOf
    rw [if_neg n1, if_neg n2, if_neg n3, if_neg n4, if_neg n5, if_neg n6]

theorem kindIx_any (A : Option Addr) (s : ByteArray) (w : World) (hl : Sl w 0 A kwB) (h0 : s.data.toList ≠ []) :
    Calls Tryz.prog 49 #[.slice A 7 7, .string s] w fun e w' => e = .returned (.int .i64 (kindOf s.data.toList)) ∧ w.grownBy w' none := by
  refine (indexStr_any A 7 7 kwB s w hl rfl).mono ?_
  rintro e w' ⟨r, rfl, h, hg⟩
  exact ⟨by rw [kind_ix h0 h], hg⟩

def evR (ps : List ByteArray) : Option Ev := wordsE (ps.map (·.data.toList))

theorem evR_pieces (s : ByteArray) : evR (piecesB 32 s) = wordsE (pieces 32 s.data.toList) := by unfold evR; rw [piecesB_data]

theorem okW_any (ps : List ByteArray) : ((ps.map (·.data.toList)).any (·.isEmpty)) = !okW ps := by
  unfold okW
  induction ps with
  | nil => rfl
  | cons p ps ih =>
    rw [List.map_cons, List.any_cons, List.all_cons, ih]
    cases p.data.toList.isEmpty <;> simp

theorem evR_bad {ps : List ByteArray} (h : okW ps = false) : evR ps = none := by
  unfold evR wordsE
  rw [okW_any, h]; rfl

theorem evR_short {ps : List ByteArray} (h : ps.length < 3) : evR ps = none := by
  unfold evR wordsE
  match ps, h with
  | [], _ => rfl
  | [a], _ => split <;> rfl
  | [a, b], _ => split <;> rfl

theorem evR_abc {a b c : ByteArray} {r : List ByteArray} (h : okW (a :: b :: c :: r) = true) : evR (a :: b :: c :: r) = match numK a.data.toList with
    | none => none
    | some n => if kindO (kindOf c.data.toList) then none
      else if kindOf c.data.toList = 1 then (match r with | [x] => some ⟨n, kindOf c.data.toList, b, x, ⟨#[]⟩⟩ | _ => none)
      else if kindOf c.data.toList = 4 then (match r with | [x] => some ⟨n, kindOf c.data.toList, b, ⟨#[]⟩, x⟩ | _ => none)
      else (match r with | [] => some ⟨n, kindOf c.data.toList, b, ⟨#[]⟩, ⟨#[]⟩⟩ | _ => none) := by
  unfold evR wordsE
  rw [okW_any, h]
  simp only [Bool.not_true, Bool.false_eq_true, if_false, List.map_cons]
  cases numK a.data.toList with
  | none => rfl
  | some n =>
    simp only
    split
    · rfl
    · split
      · match r with
        | [] => rfl
        | [x] => simp only [List.map_cons, List.map_nil, data_mkB]
        | _ :: _ :: _ => rfl
      · split
        · match r with
          | [] => rfl
          | [x] => simp only [List.map_cons, List.map_nil, data_mkB]
          | _ :: _ :: _ => rfl
        · match r with
          | [] => simp only [List.map_nil, data_mkB]
          | _ :: _ => rfl

set_option maxHeartbeats 1200000 in
set_option maxRecDepth 100000 in
theorem evReadLine_any (s : ByteArray) (w : World) (hs : s.size ≤ 200000) :
    Calls Tryz.prog 20 #[.string s] w fun e w' => ∃ d : Ev, e = .returned (.tuple #[.agg #[.int .i64 d.at_, .int .i64 d.kind, .string d.pr, .string d.job, .string d.mat], .bool (evR (piecesB 32 s)).isSome]) ∧ (∀ v, evR (piecesB 32 s) = some v → d = v) ∧ w.grownBy w' none := by
  have hW := fun wx => kitWords_any s wx hs
  obtain ⟨hp1, hp2⟩ := piecesB_small 32 hs
  generalize piecesB 32 s = ps at *
  go_enter Tryz.func20, Tryz.ntmps20
  go_upto_region 1 with fail
  obtain ⟨w2, hw2⟩ : ∃ x, x = (w).alloc (.cells [.int .i64 0, .int .i64 0, .string ⟨#[]⟩, .string ⟨#[]⟩, .string ⟨#[]⟩].toArray 37) := ⟨_, rfl⟩
  have hg2 : (w).grownBy w2 none := by rw [hw2]; exact gr_alloc (World.grownBy.refl _ _) _
  have hb2 : Box w2 (w).heap.size 37 [.int .i64 0, .int .i64 0, .string ⟨#[]⟩, .string ⟨#[]⟩, .string ⟨#[]⟩] := by rw [hw2]; exact Box.new _ _ _
  have hxs2 := hb2.lt
  rw [← hw2]
  clear hw2
  obtain ⟨x2, hx2⟩ : ∃ x, x = (w).heap.size := ⟨_, rfl⟩
  rw [← hx2] at hb2 hxs2 ⊢
  have hxl2 : (w).heap.size ≤ x2 := by omega
  clear hx2
  go_wp2_with fail
  refine (hW _).mono ?_
  rintro e w3 ⟨A3, c3, rfl, hl, hg3⟩
  clear hW
  have hgA := hg2.t hg3
  have hbz := hb2.pure hg3
  cases hok : okW ps with
  | false =>
    have hD := hide (evR_bad hok)
    replace hok := hide hok
    (obtain ⟨z0, f0⟩ := hbz.c 0 rfl
     obtain ⟨z1, f1⟩ := hbz.c 1 rfl
     obtain ⟨z2, f2⟩ := hbz.c 2 rfl
     obtain ⟨z3, f3⟩ := hbz.c 3 rfl
     obtain ⟨z4, f4⟩ := hbz.c 4 rfl)
    go_wp2_with fail
    have hbF := ((((hbz.set_ 0 (.int .i64 0) (by simp)).set_ 1 (.int .i64 0) (by simp)).set_ 2 (.string ⟨#[]⟩) (by simp)).set_ 3 (.string ⟨#[]⟩) (by simp)).set_ 4 (.string ⟨#[]⟩) (by simp)
    obtain ⟨q0, _⟩ := hbF.c 0 rfl
    obtain ⟨q1, _⟩ := hbF.c 1 rfl
    obtain ⟨q2, _⟩ := hbF.c 2 rfl
    obtain ⟨q3, _⟩ := hbF.c 3 rfl
    obtain ⟨q4, _⟩ := hbF.c 4 rfl
    have hgF := gr_set (gr_set (gr_set (gr_set (gr_set hgA (p := ⟨x2, 0, none⟩) (.inr hxl2) (.int .i64 0)) (p := ⟨x2, 1, none⟩) (.inr hxl2) (.int .i64 0)) (p := ⟨x2, 2, none⟩) (.inr hxl2) (.string ⟨#[]⟩)) (p := ⟨x2, 3, none⟩) (.inr hxl2) (.string ⟨#[]⟩)) (p := ⟨x2, 4, none⟩) (.inr hxl2) (.string ⟨#[]⟩)
    exact bodyPost_ret (v := .tuple #[.agg #[.int .i64 0, .int .i64 0, .string ⟨#[]⟩, .string ⟨#[]⟩, .string ⟨#[]⟩], .bool false]) (by simp [results, Tryz.results20, go_sem, q0, q1, q2, q3, q4]) rfl ⟨⟨0, 0, ⟨#[]⟩, ⟨#[]⟩, ⟨#[]⟩⟩, by rw [hD.out]; rfl, fun v e => by rw [hD.out] at e; first | (cases e; rfl) | cases e | (injection e), hgF⟩
  | true =>
    have hwr : wordsR ps = ps := by unfold wordsR; rw [hok]; rfl
    rw [hwr] at hl ⊢
    by_cases h3 : ps.length < 3
    · have hD := hide (evR_short h3)
      have hb3' : decide ((ps.length : Int) < 3) = true := by simp; omega
      replace h3 := hide h3
      replace hok := hide hok
      (obtain ⟨z0, f0⟩ := hbz.c 0 rfl
       obtain ⟨z1, f1⟩ := hbz.c 1 rfl
       obtain ⟨z2, f2⟩ := hbz.c 2 rfl
       obtain ⟨z3, f3⟩ := hbz.c 3 rfl
       obtain ⟨z4, f4⟩ := hbz.c 4 rfl)
      go_wp2_with fail
      have hbF := ((((hbz.set_ 0 (.int .i64 0) (by simp)).set_ 1 (.int .i64 0) (by simp)).set_ 2 (.string ⟨#[]⟩) (by simp)).set_ 3 (.string ⟨#[]⟩) (by simp)).set_ 4 (.string ⟨#[]⟩) (by simp)
      obtain ⟨q0, _⟩ := hbF.c 0 rfl
      obtain ⟨q1, _⟩ := hbF.c 1 rfl
      obtain ⟨q2, _⟩ := hbF.c 2 rfl
      obtain ⟨q3, _⟩ := hbF.c 3 rfl
      obtain ⟨q4, _⟩ := hbF.c 4 rfl
      have hgF := gr_set (gr_set (gr_set (gr_set (gr_set hgA (p := ⟨x2, 0, none⟩) (.inr hxl2) (.int .i64 0)) (p := ⟨x2, 1, none⟩) (.inr hxl2) (.int .i64 0)) (p := ⟨x2, 2, none⟩) (.inr hxl2) (.string ⟨#[]⟩)) (p := ⟨x2, 3, none⟩) (.inr hxl2) (.string ⟨#[]⟩)) (p := ⟨x2, 4, none⟩) (.inr hxl2) (.string ⟨#[]⟩)
      exact bodyPost_ret (v := .tuple #[.agg #[.int .i64 0, .int .i64 0, .string ⟨#[]⟩, .string ⟨#[]⟩, .string ⟨#[]⟩], .bool false]) (by simp [results, Tryz.results20, go_sem, q0, q1, q2, q3, q4]) rfl ⟨⟨0, 0, ⟨#[]⟩, ⟨#[]⟩, ⟨#[]⟩⟩, by rw [hD.out]; rfl, fun v e => by rw [hD.out] at e; first | (cases e; rfl) | cases e | (injection e), hgF⟩
    · obtain ⟨a, b, c, r, rfl⟩ : ∃ a b c r, ps = a :: b :: c :: r := by
        match ps, h3 with
        | a :: b :: c :: r, _ => exact ⟨a, b, c, r, rfl⟩
        | [], h => exact absurd (by decide) h
        | [_], h => exact absurd (by simp) h
        | [_, _], h => exact absurd (by simp) h
      have hD0 := evR_abc hok
      have hc0 : c.data.toList ≠ [] := by
        unfold okW at hok
        simp only [List.all_cons, Bool.and_eq_true, Bool.not_eq_true', List.isEmpty_eq_false_iff] at hok
        exact hok.2.2.1
      have ha := hp1 a (by simp)
      obtain ⟨g, o, rfl, -, hgl⟩ := Sl.cells hl (by simp) (by decide)
      have c0 := strs_cells hl 0 a rfl
      have c1 := strs_cells hl 1 b rfl
      have c2 := strs_cells hl 2 c rfl
      have c4 : Hid (∀ x, r = [x] → w3.cell? ⟨g, o + 3, none⟩ = some (.string x)) := fun x hx => strs_cells hl 3 x (by rw [hx]; rfl)
      simp only [Nat.add_zero] at c0
      have hlen : (a :: b :: c :: r).length = r.length + 3 := by simp
      have hlen1 : Hid (∀ x, r = [x] → r.length = 1) := fun x hx => by rw [hx]; rfl
      have hr1 : Hid (r.length = 1 → ∃ x, r = [x]) := fun h => List.length_eq_one_iff.1 h
      have hr0 : Hid (r.length = 0 → r = []) := fun h => List.eq_nil_of_length_eq_zero h
      have hrl : r.length ≤ 300000 := by have := hp2; simp at this; omega
      have hb3' : decide (((r.length + 3 : Nat) : Int) < 3) = false := by simp; omega
      rw [hlen]
      clear hlen hl hp1 hp2 hwr h3
      have hNum := hide fun wx => kitNumber_any a wx ha
      have hKix := hide fun (B : Option Addr) wx (hx : Sl wx 0 B kwB) => kindIx_any B c wx hx hc0
      obtain ⟨KD, hK⟩ : ∃ KD, kindOf c.data.toList = KD := ⟨_, rfl⟩
      rw [hK] at hD0 hKix
      obtain ⟨R, hR⟩ : ∃ R, numK a.data.toList = R := ⟨_, rfl⟩
      rw [hR] at hD0 hNum
      replace hD0 := hide hD0
      replace hK := hide hK
      replace hR := hide hR
      clear hc0 ha
      have hgl3 : (0 : Int) ≤ (r.length : Int) := by omega
      go_wp2_with fail
      refine (hNum.out _).mono ?_
      rintro e w4 ⟨rfl, hg4⟩
      clear hNum
      obtain ⟨N, hN⟩ : ∃ N : Int, R.getD 0 = N := ⟨_, rfl⟩
      obtain ⟨OK, hOK⟩ : ∃ b : Bool, R.isSome = b := ⟨_, rfl⟩
      rw [hN, hOK]
      replace hN := hide hN
      replace hOK := hide hOK
      have d1 := hg4.k c1
      have d2 := hg4.k c2
      have hgA4 := hgA.t hg4
      have hbz4 := hbz.pure hg4
      clear c0 c1 c2 hgA hbz hb2
      go_upto_region 5 with fail
      go_cut [7] from 29 to 38 (fun s7 wx => ∃ x7, s7 = .pointer (some ⟨x7, 0, none⟩) ∧ Box wx x7 37 [.int .i64 N, .int .i64 KD, .string b, .string ⟨#[]⟩, .string ⟨#[]⟩] ∧ w4.heap.size ≤ x7 ∧ w4.grownBy wx none)
      case first =>
        refine wp_region_tree (fun wx => w4.grownBy wx none) [2, 2, 2, 1, 0, 2, 2, 1, 0, 2, 0, 0] (.bl 0 (.bl 1 (.bl 2 (.bl 3 (.bl 5 (.bl 6 (.bl 7 (.alt (.ef 4 (.alt (.ef 8 (.bl 9 (.ef 10 (.ef 11 .done)))) (.ef 10 (.ef 8 (.bl 9 (.ef 11 .done)))))) (.ef 10 (.ef 4 (.ef 8 (.bl 9 (.ef 11 .done))))))))))))) (by kernel_rfl) (by kernel_rfl) (gr_drew (World.grownBy.refl _ _)) ?_
        obtain ⟨W1, hW1⟩ : ∃ x, x = (w4).drew := ⟨_, rfl⟩
        rw [← hW1]
        have hgW1 : (w4).grownBy W1 none := by rw [hW1]; exact gr_drew (World.grownBy.refl _ _)
        clear hW1
        refine tree_p rfl rfl rfl rfl _ rfl (by simp) (fun K hK => ?_)
        apply Exists.intro
        refine ⟨fun wq K' hK' => ?_, ?_⟩
        · go_wp2_with fail
          exact hK'
        go_simp
        refine hK _ ?_
        clear hK K
        refine tree_p rfl rfl rfl rfl _ rfl (by simp) (fun K hK => ?_)
        apply Exists.intro
        refine ⟨fun wq K' hK' => ?_, ?_⟩
        · go_wp2_with fail
          exact hK'
        go_simp
        refine hK _ ?_
        clear hK K
        refine tree_p rfl rfl rfl rfl _ rfl (by simp) (fun K hK => ?_)
        apply Exists.intro
        refine ⟨fun wq K' hK' => ?_, ?_⟩
        · go_wp2_with fail
          exact hK'
        go_simp
        refine hK _ ?_
        clear hK K
        refine tree_b rfl rfl rfl rfl _ rfl (by simp) (fun K hK => ?_)
        apply Exists.intro
        refine ⟨fun wq hq K' hK' => ?_, ?_⟩
        · have y1 := hq.k d1
          have y2 := hq.k d2
          go_wp2_with fail
          exact hK'
        go_simp
        refine hK _ ?_
        clear hK K
        refine tree_p rfl rfl rfl rfl _ rfl (by simp) (fun K hK => ?_)
        apply Exists.intro
        refine ⟨fun wq K' hK' => ?_, ?_⟩
        · go_wp2_with fail
          exact hK'
        go_simp
        refine hK _ ?_
        clear hK K
        refine tree_p rfl rfl rfl rfl _ rfl (by simp) (fun K hK => ?_)
        apply Exists.intro
        refine ⟨fun wq K' hK' => ?_, ?_⟩
        · go_wp2_with fail
          exact hK'
        go_simp
        refine hK _ ?_
        clear hK K
        refine tree_b rfl rfl rfl rfl _ rfl (by simp) (fun K hK => ?_)
        apply Exists.intro
        refine ⟨fun wq hq K' hK' => ?_, ?_⟩
        · have y1 := hq.k d1
          have y2 := hq.k d2
          go_wp2_with fail
          exact hK'
        go_simp
        refine hK _ ?_
        clear hK K
        refine tree_alt ?_ ?_
        · refine tree_e rfl rfl (fun K hK => ?_)
          go_wp2_with fail
          refine (kindWords_any W1).mono ?_
          rintro e w14 ⟨gk, rfl, hk5, hg4⟩
          have hW14 : w4.grownBy w14 none := gr_trans (gr_trans hgW1 (World.grownBy.refl _ _)) hg4
          go_wp2_with fail
          try go_simp
          refine hK _ _ (hW14) ?_
          clear hK K
          refine tree_alt ?_ ?_
          · refine tree_e rfl rfl (fun K hK => ?_)
            go_wp2_with fail
            refine (hKix.out _ w14 (hk5.pure (World.grownBy.refl _ _))).mono ?_
            rintro e w18 ⟨rfl, hg8⟩
            have hW18 : w4.grownBy w18 none := gr_trans (gr_trans hgW1 hg4) hg8
            go_wp2_with fail
            try go_simp
            refine hK _ _ (hW18) ?_
            clear hK K
            refine tree_p rfl rfl rfl rfl _ rfl (by simp) (fun K hK => ?_)
            apply Exists.intro
            refine ⟨fun wq K' hK' => ?_, ?_⟩
            · go_wp2_with fail
              exact hK'
            go_simp
            refine hK _ ?_
            clear hK K
            refine tree_e rfl rfl (fun K hK => ?_)
            go_wp2_with fail
            try go_simp
            refine hK _ _ (gr_alloc (gr_trans hgW1 (gr_trans hg4 hg8)) _) ?_
            clear hK K
            obtain ⟨w10, hw10⟩ : ∃ x, x = (w18).alloc (.cells [.int .i64 0, .int .i64 0, .string ⟨#[]⟩, .string ⟨#[]⟩, .string ⟨#[]⟩].toArray 37) := ⟨_, rfl⟩
            have hg10 : (w18).grownBy w10 none := by rw [hw10]; exact gr_alloc (World.grownBy.refl _ _) _
            have hb10 : Box w10 (w18).heap.size 37 [.int .i64 0, .int .i64 0, .string ⟨#[]⟩, .string ⟨#[]⟩, .string ⟨#[]⟩] := by rw [hw10]; exact Box.new _ _ _
            rw [← hw10]
            clear hw10
            obtain ⟨x10, hx10⟩ : ∃ x, x = (w18).heap.size := ⟨_, rfl⟩
            rw [← hx10] at hb10 ⊢
            have hxl10 : (w18).heap.size ≤ x10 := by omega
            clear hx10
            have hx410 : w4.heap.size ≤ x10 := Nat.le_trans (gr_trans hgW1 (gr_trans hg4 hg8)).size hxl10
            refine tree_e0 (by kernel_rfl) rfl rfl (fun K hK => ?_)
            have hbq := hb10.pure (w' := w10) (World.grownBy.refl _ _)
            obtain ⟨y5, z5⟩ := hbq.c 0 rfl
            obtain ⟨y6, z6⟩ := hbq.c 1 rfl
            obtain ⟨y7, z7⟩ := hbq.c 2 rfl
            obtain ⟨y8, z8⟩ := hbq.c 3 rfl
            obtain ⟨y9, z9⟩ := hbq.c 4 rfl
            have hbF := hide (((((hbq.set_ 0 (.int .i64 N) (by simp)).set_ 1 (.int .i64 KD) (by simp)).set_ 2 (.string b) (by simp)).set_ 3 (.string ⟨#[]⟩) (by simp)).set_ 4 (.string ⟨#[]⟩) (by simp))
            have hgF := hide (gr_set (gr_set (gr_set (gr_set (gr_set (gr_trans hgW1 (gr_trans (gr_trans hg4 hg8) hg10)) (p := ⟨x10, 0, none⟩) (.inr hx410) (.int .i64 N)) (p := ⟨x10, 1, none⟩) (.inr hx410) (.int .i64 KD)) (p := ⟨x10, 2, none⟩) (.inr hx410) (.string b)) (p := ⟨x10, 3, none⟩) (.inr hx410) (.string ⟨#[]⟩)) (p := ⟨x10, 4, none⟩) (.inr hx410) (.string ⟨#[]⟩))
            go_wp2_with fail
            try go_simp
            refine hK _ _ trivial ?_
            clear hK K
            refine tree_done ?_
            go_wp2_with fail
            go_meet
            exact ⟨x10, rfl, hbF.out, hx410, hgF.out⟩
          · refine tree_e rfl rfl (fun K hK => ?_)
            go_wp2_with fail
            try go_simp
            refine hK _ _ (gr_alloc (gr_trans hgW1 hg4) _) ?_
            clear hK K
            obtain ⟨w10, hw10⟩ : ∃ x, x = (w14).alloc (.cells [.int .i64 0, .int .i64 0, .string ⟨#[]⟩, .string ⟨#[]⟩, .string ⟨#[]⟩].toArray 37) := ⟨_, rfl⟩
            have hg10 : (w14).grownBy w10 none := by rw [hw10]; exact gr_alloc (World.grownBy.refl _ _) _
            have hb10 : Box w10 (w14).heap.size 37 [.int .i64 0, .int .i64 0, .string ⟨#[]⟩, .string ⟨#[]⟩, .string ⟨#[]⟩] := by rw [hw10]; exact Box.new _ _ _
            rw [← hw10]
            clear hw10
            obtain ⟨x10, hx10⟩ : ∃ x, x = (w14).heap.size := ⟨_, rfl⟩
            rw [← hx10] at hb10 ⊢
            have hxl10 : (w14).heap.size ≤ x10 := by omega
            clear hx10
            have hx410 : w4.heap.size ≤ x10 := Nat.le_trans (gr_trans hgW1 hg4).size hxl10
            refine tree_e rfl rfl (fun K hK => ?_)
            go_wp2_with fail
            refine (hKix.out _ w10 (hk5.pure hg10)).mono ?_
            rintro e w18 ⟨rfl, hg8⟩
            have hW18 : w4.grownBy w18 none := gr_trans (gr_trans hgW1 (gr_trans hg4 hg10)) hg8
            go_wp2_with fail
            try go_simp
            refine hK _ _ (hW18) ?_
            clear hK K
            refine tree_p rfl rfl rfl rfl _ rfl (by simp) (fun K hK => ?_)
            apply Exists.intro
            refine ⟨fun wq K' hK' => ?_, ?_⟩
            · go_wp2_with fail
              exact hK'
            go_simp
            refine hK _ ?_
            clear hK K
            refine tree_e0 (by kernel_rfl) rfl rfl (fun K hK => ?_)
            have hbq := hb10.pure (w' := w18) hg8
            obtain ⟨y5, z5⟩ := hbq.c 0 rfl
            obtain ⟨y6, z6⟩ := hbq.c 1 rfl
            obtain ⟨y7, z7⟩ := hbq.c 2 rfl
            obtain ⟨y8, z8⟩ := hbq.c 3 rfl
            obtain ⟨y9, z9⟩ := hbq.c 4 rfl
            have hbF := hide (((((hbq.set_ 0 (.int .i64 N) (by simp)).set_ 1 (.int .i64 KD) (by simp)).set_ 2 (.string b) (by simp)).set_ 3 (.string ⟨#[]⟩) (by simp)).set_ 4 (.string ⟨#[]⟩) (by simp))
            have hgF := hide (gr_set (gr_set (gr_set (gr_set (gr_set (gr_trans hgW1 (gr_trans (gr_trans hg4 hg10) hg8)) (p := ⟨x10, 0, none⟩) (.inr hx410) (.int .i64 N)) (p := ⟨x10, 1, none⟩) (.inr hx410) (.int .i64 KD)) (p := ⟨x10, 2, none⟩) (.inr hx410) (.string b)) (p := ⟨x10, 3, none⟩) (.inr hx410) (.string ⟨#[]⟩)) (p := ⟨x10, 4, none⟩) (.inr hx410) (.string ⟨#[]⟩))
            go_wp2_with fail
            try go_simp
            refine hK _ _ trivial ?_
            clear hK K
            refine tree_done ?_
            go_wp2_with fail
            go_meet
            exact ⟨x10, rfl, hbF.out, hx410, hgF.out⟩
        · refine tree_e rfl rfl (fun K hK => ?_)
          go_wp2_with fail
          try go_simp
          refine hK _ _ (gr_alloc (gr_trans hgW1 (World.grownBy.refl _ _)) _) ?_
          clear hK K
          obtain ⟨w10, hw10⟩ : ∃ x, x = (W1).alloc (.cells [.int .i64 0, .int .i64 0, .string ⟨#[]⟩, .string ⟨#[]⟩, .string ⟨#[]⟩].toArray 37) := ⟨_, rfl⟩
          have hg10 : (W1).grownBy w10 none := by rw [hw10]; exact gr_alloc (World.grownBy.refl _ _) _
          have hb10 : Box w10 (W1).heap.size 37 [.int .i64 0, .int .i64 0, .string ⟨#[]⟩, .string ⟨#[]⟩, .string ⟨#[]⟩] := by rw [hw10]; exact Box.new _ _ _
          rw [← hw10]
          clear hw10
          obtain ⟨x10, hx10⟩ : ∃ x, x = (W1).heap.size := ⟨_, rfl⟩
          rw [← hx10] at hb10 ⊢
          have hxl10 : (W1).heap.size ≤ x10 := by omega
          clear hx10
          have hx410 : w4.heap.size ≤ x10 := Nat.le_trans (gr_trans hgW1 (World.grownBy.refl _ _)).size hxl10
          refine tree_e rfl rfl (fun K hK => ?_)
          go_wp2_with fail
          refine (kindWords_any w10).mono ?_
          rintro e w14 ⟨gk, rfl, hk5, hg4⟩
          have hW14 : w4.grownBy w14 none := gr_trans (gr_trans hgW1 hg10) hg4
          go_wp2_with fail
          try go_simp
          refine hK _ _ (hW14) ?_
          clear hK K
          refine tree_e rfl rfl (fun K hK => ?_)
          go_wp2_with fail
          refine (hKix.out _ w14 (hk5.pure (World.grownBy.refl _ _))).mono ?_
          rintro e w18 ⟨rfl, hg8⟩
          have hW18 : w4.grownBy w18 none := gr_trans (gr_trans hgW1 (gr_trans hg10 hg4)) hg8
          go_wp2_with fail
          try go_simp
          refine hK _ _ (hW18) ?_
          clear hK K
          refine tree_p rfl rfl rfl rfl _ rfl (by simp) (fun K hK => ?_)
          apply Exists.intro
          refine ⟨fun wq K' hK' => ?_, ?_⟩
          · go_wp2_with fail
            exact hK'
          go_simp
          refine hK _ ?_
          clear hK K
          refine tree_e0 (by kernel_rfl) rfl rfl (fun K hK => ?_)
          have hbq := hb10.pure (w' := w18) (gr_trans hg4 hg8)
          obtain ⟨y5, z5⟩ := hbq.c 0 rfl
          obtain ⟨y6, z6⟩ := hbq.c 1 rfl
          obtain ⟨y7, z7⟩ := hbq.c 2 rfl
          obtain ⟨y8, z8⟩ := hbq.c 3 rfl
          obtain ⟨y9, z9⟩ := hbq.c 4 rfl
          have hbF := hide (((((hbq.set_ 0 (.int .i64 N) (by simp)).set_ 1 (.int .i64 KD) (by simp)).set_ 2 (.string b) (by simp)).set_ 3 (.string ⟨#[]⟩) (by simp)).set_ 4 (.string ⟨#[]⟩) (by simp))
          have hgF := hide (gr_set (gr_set (gr_set (gr_set (gr_set (gr_trans hgW1 (gr_trans (gr_trans hg10 hg4) hg8)) (p := ⟨x10, 0, none⟩) (.inr hx410) (.int .i64 N)) (p := ⟨x10, 1, none⟩) (.inr hx410) (.int .i64 KD)) (p := ⟨x10, 2, none⟩) (.inr hx410) (.string b)) (p := ⟨x10, 3, none⟩) (.inr hx410) (.string ⟨#[]⟩)) (p := ⟨x10, 4, none⟩) (.inr hx410) (.string ⟨#[]⟩))
          go_wp2_with fail
          try go_simp
          refine hK _ _ trivial ?_
          clear hK K
          refine tree_done ?_
          go_wp2_with fail
          go_meet
          exact ⟨x10, rfl, hbF.out, hx410, hgF.out⟩
      case rest =>
      obtain ⟨x7, rfl, hb7, hx7, hg5⟩ := hcut
      rename World => w5
      have hgA5 := hgA4.t hg5
      have hbz5 := hbz4.pure hg5
      have hsz4 := hg3.size
      have hsz5 := hg4.size
      have hne : x2 ≠ x7 := by omega
      have hne' : x7 ≠ x2 := by omega
      have hx7w : w.heap.size ≤ x7 := by have := hgA4.size; omega
      have d4 : Hid (∀ x, r = [x] → w5.cell? ⟨g, o + 3, none⟩ = some (.string x)) := fun x hx => hg5.k (hg4.k (c4.out x hx))
      obtain ⟨k0, l0⟩ := hb7.c 0 rfl
      obtain ⟨k1, l1⟩ := hb7.c 1 rfl
      clear d1 d2 hKix hbz4 hgA4 hg5 c4
      cases R with
      | none =>
        have hD : Hid (evR (a :: b :: c :: r) = none) := hD0.out
        obtain rfl : false = OK := hOK.out
        rcases e1 : (KD == 1) with _ | _ <;> rcases e4 : (KD == 4) with _ | _
        · (obtain ⟨z0, f0⟩ := hbz5.c 0 rfl
           obtain ⟨z1, f1⟩ := hbz5.c 1 rfl
           obtain ⟨z2, f2⟩ := hbz5.c 2 rfl
           obtain ⟨z3, f3⟩ := hbz5.c 3 rfl
           obtain ⟨z4, f4⟩ := hbz5.c 4 rfl)
          go_wp2_with fail
          have hbF := ((((hbz5.set_ 0 (.int .i64 0) (by simp)).set_ 1 (.int .i64 0) (by simp)).set_ 2 (.string ⟨#[]⟩) (by simp)).set_ 3 (.string ⟨#[]⟩) (by simp)).set_ 4 (.string ⟨#[]⟩) (by simp)
          obtain ⟨q0, _⟩ := hbF.c 0 rfl
          obtain ⟨q1, _⟩ := hbF.c 1 rfl
          obtain ⟨q2, _⟩ := hbF.c 2 rfl
          obtain ⟨q3, _⟩ := hbF.c 3 rfl
          obtain ⟨q4, _⟩ := hbF.c 4 rfl
          have hgF := gr_set (gr_set (gr_set (gr_set (gr_set hgA5 (p := ⟨x2, 0, none⟩) (.inr hxl2) (.int .i64 0)) (p := ⟨x2, 1, none⟩) (.inr hxl2) (.int .i64 0)) (p := ⟨x2, 2, none⟩) (.inr hxl2) (.string ⟨#[]⟩)) (p := ⟨x2, 3, none⟩) (.inr hxl2) (.string ⟨#[]⟩)) (p := ⟨x2, 4, none⟩) (.inr hxl2) (.string ⟨#[]⟩)
          exact bodyPost_ret (v := .tuple #[.agg #[.int .i64 0, .int .i64 0, .string ⟨#[]⟩, .string ⟨#[]⟩, .string ⟨#[]⟩], .bool false]) (by simp [results, Tryz.results20, go_sem, q0, q1, q2, q3, q4]) rfl ⟨⟨0, 0, ⟨#[]⟩, ⟨#[]⟩, ⟨#[]⟩⟩, by rw [hD.out]; rfl, fun v e => by rw [hD.out] at e; first | (cases e; rfl) | cases e | (injection e), hgF⟩
        · (obtain ⟨z0, f0⟩ := hbz5.c 0 rfl
           obtain ⟨z1, f1⟩ := hbz5.c 1 rfl
           obtain ⟨z2, f2⟩ := hbz5.c 2 rfl
           obtain ⟨z3, f3⟩ := hbz5.c 3 rfl
           obtain ⟨z4, f4⟩ := hbz5.c 4 rfl)
          go_wp2_with fail
          have hbF := ((((hbz5.set_ 0 (.int .i64 0) (by simp)).set_ 1 (.int .i64 0) (by simp)).set_ 2 (.string ⟨#[]⟩) (by simp)).set_ 3 (.string ⟨#[]⟩) (by simp)).set_ 4 (.string ⟨#[]⟩) (by simp)
          obtain ⟨q0, _⟩ := hbF.c 0 rfl
          obtain ⟨q1, _⟩ := hbF.c 1 rfl
          obtain ⟨q2, _⟩ := hbF.c 2 rfl
          obtain ⟨q3, _⟩ := hbF.c 3 rfl
          obtain ⟨q4, _⟩ := hbF.c 4 rfl
          have hgF := gr_set (gr_set (gr_set (gr_set (gr_set hgA5 (p := ⟨x2, 0, none⟩) (.inr hxl2) (.int .i64 0)) (p := ⟨x2, 1, none⟩) (.inr hxl2) (.int .i64 0)) (p := ⟨x2, 2, none⟩) (.inr hxl2) (.string ⟨#[]⟩)) (p := ⟨x2, 3, none⟩) (.inr hxl2) (.string ⟨#[]⟩)) (p := ⟨x2, 4, none⟩) (.inr hxl2) (.string ⟨#[]⟩)
          exact bodyPost_ret (v := .tuple #[.agg #[.int .i64 0, .int .i64 0, .string ⟨#[]⟩, .string ⟨#[]⟩, .string ⟨#[]⟩], .bool false]) (by simp [results, Tryz.results20, go_sem, q0, q1, q2, q3, q4]) rfl ⟨⟨0, 0, ⟨#[]⟩, ⟨#[]⟩, ⟨#[]⟩⟩, by rw [hD.out]; rfl, fun v e => by rw [hD.out] at e; first | (cases e; rfl) | cases e | (injection e), hgF⟩
        · (obtain ⟨z0, f0⟩ := hbz5.c 0 rfl
           obtain ⟨z1, f1⟩ := hbz5.c 1 rfl
           obtain ⟨z2, f2⟩ := hbz5.c 2 rfl
           obtain ⟨z3, f3⟩ := hbz5.c 3 rfl
           obtain ⟨z4, f4⟩ := hbz5.c 4 rfl)
          go_wp2_with fail
          have hbF := ((((hbz5.set_ 0 (.int .i64 0) (by simp)).set_ 1 (.int .i64 0) (by simp)).set_ 2 (.string ⟨#[]⟩) (by simp)).set_ 3 (.string ⟨#[]⟩) (by simp)).set_ 4 (.string ⟨#[]⟩) (by simp)
          obtain ⟨q0, _⟩ := hbF.c 0 rfl
          obtain ⟨q1, _⟩ := hbF.c 1 rfl
          obtain ⟨q2, _⟩ := hbF.c 2 rfl
          obtain ⟨q3, _⟩ := hbF.c 3 rfl
          obtain ⟨q4, _⟩ := hbF.c 4 rfl
          have hgF := gr_set (gr_set (gr_set (gr_set (gr_set hgA5 (p := ⟨x2, 0, none⟩) (.inr hxl2) (.int .i64 0)) (p := ⟨x2, 1, none⟩) (.inr hxl2) (.int .i64 0)) (p := ⟨x2, 2, none⟩) (.inr hxl2) (.string ⟨#[]⟩)) (p := ⟨x2, 3, none⟩) (.inr hxl2) (.string ⟨#[]⟩)) (p := ⟨x2, 4, none⟩) (.inr hxl2) (.string ⟨#[]⟩)
          exact bodyPost_ret (v := .tuple #[.agg #[.int .i64 0, .int .i64 0, .string ⟨#[]⟩, .string ⟨#[]⟩, .string ⟨#[]⟩], .bool false]) (by simp [results, Tryz.results20, go_sem, q0, q1, q2, q3, q4]) rfl ⟨⟨0, 0, ⟨#[]⟩, ⟨#[]⟩, ⟨#[]⟩⟩, by rw [hD.out]; rfl, fun v e => by rw [hD.out] at e; first | (cases e; rfl) | cases e | (injection e), hgF⟩
        · (obtain ⟨z0, f0⟩ := hbz5.c 0 rfl
           obtain ⟨z1, f1⟩ := hbz5.c 1 rfl
           obtain ⟨z2, f2⟩ := hbz5.c 2 rfl
           obtain ⟨z3, f3⟩ := hbz5.c 3 rfl
           obtain ⟨z4, f4⟩ := hbz5.c 4 rfl)
          go_wp2_with fail
          have hbF := ((((hbz5.set_ 0 (.int .i64 0) (by simp)).set_ 1 (.int .i64 0) (by simp)).set_ 2 (.string ⟨#[]⟩) (by simp)).set_ 3 (.string ⟨#[]⟩) (by simp)).set_ 4 (.string ⟨#[]⟩) (by simp)
          obtain ⟨q0, _⟩ := hbF.c 0 rfl
          obtain ⟨q1, _⟩ := hbF.c 1 rfl
          obtain ⟨q2, _⟩ := hbF.c 2 rfl
          obtain ⟨q3, _⟩ := hbF.c 3 rfl
          obtain ⟨q4, _⟩ := hbF.c 4 rfl
          have hgF := gr_set (gr_set (gr_set (gr_set (gr_set hgA5 (p := ⟨x2, 0, none⟩) (.inr hxl2) (.int .i64 0)) (p := ⟨x2, 1, none⟩) (.inr hxl2) (.int .i64 0)) (p := ⟨x2, 2, none⟩) (.inr hxl2) (.string ⟨#[]⟩)) (p := ⟨x2, 3, none⟩) (.inr hxl2) (.string ⟨#[]⟩)) (p := ⟨x2, 4, none⟩) (.inr hxl2) (.string ⟨#[]⟩)
          exact bodyPost_ret (v := .tuple #[.agg #[.int .i64 0, .int .i64 0, .string ⟨#[]⟩, .string ⟨#[]⟩, .string ⟨#[]⟩], .bool false]) (by simp [results, Tryz.results20, go_sem, q0, q1, q2, q3, q4]) rfl ⟨⟨0, 0, ⟨#[]⟩, ⟨#[]⟩, ⟨#[]⟩⟩, by rw [hD.out]; rfl, fun v e => by rw [hD.out] at e; first | (cases e; rfl) | cases e | (injection e), hgF⟩
      | some n =>
        obtain rfl : n = N := hN.out
        obtain rfl : true = OK := hOK.out
        have hDx := hD0.out
        simp only at hDx
        clear hD0
        by_cases hk1 : KD = 1
        · subst hk1
          rw [if_neg (show ¬ kindO 1 = true by decide), if_pos rfl] at hDx
          have hkk : (!kindO 1) = true := by decide
          by_cases hr : r.length = 1
          · obtain ⟨x, rfl⟩ := hr1.out hr
            have hD : Hid (evR [a, b, c, x] = some ⟨n, 1, b, x, ⟨#[]⟩⟩) := hDx
            have d5 := d4.out x rfl
            clear hDx hr
            clear k0 k1 l0 l1
            obtain ⟨k0, l0⟩ := hb7.c 0 rfl
            obtain ⟨k1, l1⟩ := hb7.c 1 rfl
            obtain ⟨k3, l3⟩ := hb7.c 3 rfl
            obtain ⟨k4, l4⟩ := hb7.c 4 rfl
            go_wp2_with fail
            refine (isKind_any _ _).mono ?_
            rintro e wq ⟨rfl, rfl⟩
            rw [hkk]
            go_upto_region 16 with fail
            obtain ⟨w6, hw6⟩ : ∃ W : World, W = w5.setCell ⟨x7, 3, none⟩ (.string x) := ⟨_, rfl⟩
            rw [← hw6]
            have hb6 : Box w6 x7 37 [.int .i64 n, .int .i64 1, .string b, .string x, .string ⟨#[]⟩] := by rw [hw6]; exact hb7.set_ 3 (.string x) (by simp)
            have hbz6 : Box w6 x2 37 [.int .i64 0, .int .i64 0, .string ⟨#[]⟩, .string ⟨#[]⟩, .string ⟨#[]⟩] := by rw [hw6]; exact hbz5.set_other _ hne'
            have hgA6 : w.grownBy w6 none := by rw [hw6]; exact gr_set hgA5 (.inr hx7w) _
            clear hw6 k0 k1 k3 k4 l0 l1 l3 l4 d5
            obtain ⟨k0, _⟩ := hb6.c 0 rfl
            obtain ⟨k1, _⟩ := hb6.c 1 rfl
            obtain ⟨k2, _⟩ := hb6.c 2 rfl
            obtain ⟨k3, _⟩ := hb6.c 3 rfl
            obtain ⟨k4, _⟩ := hb6.c 4 rfl
            (obtain ⟨z0, f0⟩ := hbz6.c 0 rfl
             obtain ⟨z1, f1⟩ := hbz6.c 1 rfl
             obtain ⟨z2, f2⟩ := hbz6.c 2 rfl
             obtain ⟨z3, f3⟩ := hbz6.c 3 rfl
             obtain ⟨z4, f4⟩ := hbz6.c 4 rfl)
            go_wp2_with fail
            have hbF := ((((hbz6.set_ 0 (.int .i64 n) (by simp)).set_ 1 (.int .i64 1) (by simp)).set_ 2 (.string b) (by simp)).set_ 3 (.string x) (by simp)).set_ 4 (.string ⟨#[]⟩) (by simp)
            obtain ⟨q0, _⟩ := hbF.c 0 rfl
            obtain ⟨q1, _⟩ := hbF.c 1 rfl
            obtain ⟨q2, _⟩ := hbF.c 2 rfl
            obtain ⟨q3, _⟩ := hbF.c 3 rfl
            obtain ⟨q4, _⟩ := hbF.c 4 rfl
            have hgF := gr_set (gr_set (gr_set (gr_set (gr_set hgA6 (p := ⟨x2, 0, none⟩) (.inr hxl2) (.int .i64 n)) (p := ⟨x2, 1, none⟩) (.inr hxl2) (.int .i64 1)) (p := ⟨x2, 2, none⟩) (.inr hxl2) (.string b)) (p := ⟨x2, 3, none⟩) (.inr hxl2) (.string x)) (p := ⟨x2, 4, none⟩) (.inr hxl2) (.string ⟨#[]⟩)
            exact bodyPost_ret (v := .tuple #[.agg #[.int .i64 n, .int .i64 1, .string b, .string x, .string ⟨#[]⟩], .bool true]) (by simp [results, Tryz.results20, go_sem, q0, q1, q2, q3, q4]) rfl ⟨⟨n, 1, b, x, ⟨#[]⟩⟩, by rw [hD.out]; rfl, fun v e => by rw [hD.out] at e; first | (cases e; rfl) | cases e | (injection e), hgF⟩
          · have hD : Hid (evR (a :: b :: c :: r) = none) := by
              rw [Hid, hDx]
              match r, hr with
              | [], _ => rfl
              | [_], h => exact absurd rfl h
              | _ :: _ :: _, _ => rfl
            have hle : (((r.length : Int) + 3) != 4) = true := by simp; omega
            clear hDx
            replace hr := hide hr
            (obtain ⟨z0, f0⟩ := hbz5.c 0 rfl
             obtain ⟨z1, f1⟩ := hbz5.c 1 rfl
             obtain ⟨z2, f2⟩ := hbz5.c 2 rfl
             obtain ⟨z3, f3⟩ := hbz5.c 3 rfl
             obtain ⟨z4, f4⟩ := hbz5.c 4 rfl)
            go_wp2_with fail
            refine (isKind_any _ _).mono ?_
            rintro e wq ⟨rfl, rfl⟩
            rw [hkk]
            go_wp2_with fail
            have hbF := ((((hbz5.set_ 0 (.int .i64 0) (by simp)).set_ 1 (.int .i64 0) (by simp)).set_ 2 (.string ⟨#[]⟩) (by simp)).set_ 3 (.string ⟨#[]⟩) (by simp)).set_ 4 (.string ⟨#[]⟩) (by simp)
            obtain ⟨q0, _⟩ := hbF.c 0 rfl
            obtain ⟨q1, _⟩ := hbF.c 1 rfl
            obtain ⟨q2, _⟩ := hbF.c 2 rfl
            obtain ⟨q3, _⟩ := hbF.c 3 rfl
            obtain ⟨q4, _⟩ := hbF.c 4 rfl
            have hgF := gr_set (gr_set (gr_set (gr_set (gr_set hgA5 (p := ⟨x2, 0, none⟩) (.inr hxl2) (.int .i64 0)) (p := ⟨x2, 1, none⟩) (.inr hxl2) (.int .i64 0)) (p := ⟨x2, 2, none⟩) (.inr hxl2) (.string ⟨#[]⟩)) (p := ⟨x2, 3, none⟩) (.inr hxl2) (.string ⟨#[]⟩)) (p := ⟨x2, 4, none⟩) (.inr hxl2) (.string ⟨#[]⟩)
            exact bodyPost_ret (v := .tuple #[.agg #[.int .i64 0, .int .i64 0, .string ⟨#[]⟩, .string ⟨#[]⟩, .string ⟨#[]⟩], .bool false]) (by simp [results, Tryz.results20, go_sem, q0, q1, q2, q3, q4]) rfl ⟨⟨0, 0, ⟨#[]⟩, ⟨#[]⟩, ⟨#[]⟩⟩, by rw [hD.out]; rfl, fun v e => by rw [hD.out] at e; first | (cases e; rfl) | cases e | (injection e), hgF⟩
        · by_cases hk4 : KD = 4
          · subst hk4
            rw [if_neg (show ¬ kindO 4 = true by decide), if_neg (show ¬ (4 : Int) = 1 by decide), if_pos rfl] at hDx
            have hkk : (!kindO 4) = true := by decide
            clear hk1
            by_cases hr : r.length = 1
            · obtain ⟨x, rfl⟩ := hr1.out hr
              have hD : Hid (evR [a, b, c, x] = some ⟨n, 4, b, ⟨#[]⟩, x⟩) := hDx
              have d5 := d4.out x rfl
              clear hDx hr
              clear k0 k1 l0 l1
              obtain ⟨k0, l0⟩ := hb7.c 0 rfl
              obtain ⟨k1, l1⟩ := hb7.c 1 rfl
              obtain ⟨k3, l3⟩ := hb7.c 3 rfl
              obtain ⟨k4, l4⟩ := hb7.c 4 rfl
              go_wp2_with fail
              refine (isKind_any _ _).mono ?_
              rintro e wq ⟨rfl, rfl⟩
              rw [hkk]
              go_upto_region 16 with fail
              obtain ⟨w6, hw6⟩ : ∃ W : World, W = w5.setCell ⟨x7, 4, none⟩ (.string x) := ⟨_, rfl⟩
              rw [← hw6]
              have hb6 : Box w6 x7 37 [.int .i64 n, .int .i64 4, .string b, .string ⟨#[]⟩, .string x] := by rw [hw6]; exact hb7.set_ 4 (.string x) (by simp)
              have hbz6 : Box w6 x2 37 [.int .i64 0, .int .i64 0, .string ⟨#[]⟩, .string ⟨#[]⟩, .string ⟨#[]⟩] := by rw [hw6]; exact hbz5.set_other _ hne'
              have hgA6 : w.grownBy w6 none := by rw [hw6]; exact gr_set hgA5 (.inr hx7w) _
              clear hw6 k0 k1 k3 k4 l0 l1 l3 l4 d5
              obtain ⟨k0, _⟩ := hb6.c 0 rfl
              obtain ⟨k1, _⟩ := hb6.c 1 rfl
              obtain ⟨k2, _⟩ := hb6.c 2 rfl
              obtain ⟨k3, _⟩ := hb6.c 3 rfl
              obtain ⟨k4, _⟩ := hb6.c 4 rfl
              (obtain ⟨z0, f0⟩ := hbz6.c 0 rfl
               obtain ⟨z1, f1⟩ := hbz6.c 1 rfl
               obtain ⟨z2, f2⟩ := hbz6.c 2 rfl
               obtain ⟨z3, f3⟩ := hbz6.c 3 rfl
               obtain ⟨z4, f4⟩ := hbz6.c 4 rfl)
              go_wp2_with fail
              have hbF := ((((hbz6.set_ 0 (.int .i64 n) (by simp)).set_ 1 (.int .i64 4) (by simp)).set_ 2 (.string b) (by simp)).set_ 3 (.string ⟨#[]⟩) (by simp)).set_ 4 (.string x) (by simp)
              obtain ⟨q0, _⟩ := hbF.c 0 rfl
              obtain ⟨q1, _⟩ := hbF.c 1 rfl
              obtain ⟨q2, _⟩ := hbF.c 2 rfl
              obtain ⟨q3, _⟩ := hbF.c 3 rfl
              obtain ⟨q4, _⟩ := hbF.c 4 rfl
              have hgF := gr_set (gr_set (gr_set (gr_set (gr_set hgA6 (p := ⟨x2, 0, none⟩) (.inr hxl2) (.int .i64 n)) (p := ⟨x2, 1, none⟩) (.inr hxl2) (.int .i64 4)) (p := ⟨x2, 2, none⟩) (.inr hxl2) (.string b)) (p := ⟨x2, 3, none⟩) (.inr hxl2) (.string ⟨#[]⟩)) (p := ⟨x2, 4, none⟩) (.inr hxl2) (.string x)
              exact bodyPost_ret (v := .tuple #[.agg #[.int .i64 n, .int .i64 4, .string b, .string ⟨#[]⟩, .string x], .bool true]) (by simp [results, Tryz.results20, go_sem, q0, q1, q2, q3, q4]) rfl ⟨⟨n, 4, b, ⟨#[]⟩, x⟩, by rw [hD.out]; rfl, fun v e => by rw [hD.out] at e; first | (cases e; rfl) | cases e | (injection e), hgF⟩
            · have hD : Hid (evR (a :: b :: c :: r) = none) := by
                rw [Hid, hDx]
                match r, hr with
                | [], _ => rfl
                | [_], h => exact absurd rfl h
                | _ :: _ :: _, _ => rfl
              have hle : (((r.length : Int) + 3) != 4) = true := by simp; omega
              clear hDx
              replace hr := hide hr
              (obtain ⟨z0, f0⟩ := hbz5.c 0 rfl
               obtain ⟨z1, f1⟩ := hbz5.c 1 rfl
               obtain ⟨z2, f2⟩ := hbz5.c 2 rfl
               obtain ⟨z3, f3⟩ := hbz5.c 3 rfl
               obtain ⟨z4, f4⟩ := hbz5.c 4 rfl)
              go_wp2_with fail
              refine (isKind_any _ _).mono ?_
              rintro e wq ⟨rfl, rfl⟩
              rw [hkk]
              go_wp2_with fail
              have hbF := ((((hbz5.set_ 0 (.int .i64 0) (by simp)).set_ 1 (.int .i64 0) (by simp)).set_ 2 (.string ⟨#[]⟩) (by simp)).set_ 3 (.string ⟨#[]⟩) (by simp)).set_ 4 (.string ⟨#[]⟩) (by simp)
              obtain ⟨q0, _⟩ := hbF.c 0 rfl
              obtain ⟨q1, _⟩ := hbF.c 1 rfl
              obtain ⟨q2, _⟩ := hbF.c 2 rfl
              obtain ⟨q3, _⟩ := hbF.c 3 rfl
              obtain ⟨q4, _⟩ := hbF.c 4 rfl
              have hgF := gr_set (gr_set (gr_set (gr_set (gr_set hgA5 (p := ⟨x2, 0, none⟩) (.inr hxl2) (.int .i64 0)) (p := ⟨x2, 1, none⟩) (.inr hxl2) (.int .i64 0)) (p := ⟨x2, 2, none⟩) (.inr hxl2) (.string ⟨#[]⟩)) (p := ⟨x2, 3, none⟩) (.inr hxl2) (.string ⟨#[]⟩)) (p := ⟨x2, 4, none⟩) (.inr hxl2) (.string ⟨#[]⟩)
              exact bodyPost_ret (v := .tuple #[.agg #[.int .i64 0, .int .i64 0, .string ⟨#[]⟩, .string ⟨#[]⟩, .string ⟨#[]⟩], .bool false]) (by simp [results, Tryz.results20, go_sem, q0, q1, q2, q3, q4]) rfl ⟨⟨0, 0, ⟨#[]⟩, ⟨#[]⟩, ⟨#[]⟩⟩, by rw [hD.out]; rfl, fun v e => by rw [hD.out] at e; first | (cases e; rfl) | cases e | (injection e), hgF⟩
          · have e1 : (KD == 1) = false := by simp [hk1]
            have e4 : (KD == 4) = false := by simp [hk4]
            rw [if_neg hk1, if_neg hk4] at hDx
            replace hk1 := hide hk1
            replace hk4 := hide hk4
            cases hko : kindO KD with
            | true =>
              rw [hko, if_pos rfl] at hDx
              have hD : Hid (evR (a :: b :: c :: r) = none) := hDx
              have hkk : (!kindO KD) = false := by rw [hko]; rfl
              clear hDx
              (obtain ⟨z0, f0⟩ := hbz5.c 0 rfl
               obtain ⟨z1, f1⟩ := hbz5.c 1 rfl
               obtain ⟨z2, f2⟩ := hbz5.c 2 rfl
               obtain ⟨z3, f3⟩ := hbz5.c 3 rfl
               obtain ⟨z4, f4⟩ := hbz5.c 4 rfl)
              go_wp2_with fail
              refine (isKind_any _ _).mono ?_
              rintro e wq ⟨rfl, rfl⟩
              rw [hkk]
              go_wp2_with fail
              have hbF := ((((hbz5.set_ 0 (.int .i64 0) (by simp)).set_ 1 (.int .i64 0) (by simp)).set_ 2 (.string ⟨#[]⟩) (by simp)).set_ 3 (.string ⟨#[]⟩) (by simp)).set_ 4 (.string ⟨#[]⟩) (by simp)
              obtain ⟨q0, _⟩ := hbF.c 0 rfl
              obtain ⟨q1, _⟩ := hbF.c 1 rfl
              obtain ⟨q2, _⟩ := hbF.c 2 rfl
              obtain ⟨q3, _⟩ := hbF.c 3 rfl
              obtain ⟨q4, _⟩ := hbF.c 4 rfl
              have hgF := gr_set (gr_set (gr_set (gr_set (gr_set hgA5 (p := ⟨x2, 0, none⟩) (.inr hxl2) (.int .i64 0)) (p := ⟨x2, 1, none⟩) (.inr hxl2) (.int .i64 0)) (p := ⟨x2, 2, none⟩) (.inr hxl2) (.string ⟨#[]⟩)) (p := ⟨x2, 3, none⟩) (.inr hxl2) (.string ⟨#[]⟩)) (p := ⟨x2, 4, none⟩) (.inr hxl2) (.string ⟨#[]⟩)
              exact bodyPost_ret (v := .tuple #[.agg #[.int .i64 0, .int .i64 0, .string ⟨#[]⟩, .string ⟨#[]⟩, .string ⟨#[]⟩], .bool false]) (by simp [results, Tryz.results20, go_sem, q0, q1, q2, q3, q4]) rfl ⟨⟨0, 0, ⟨#[]⟩, ⟨#[]⟩, ⟨#[]⟩⟩, by rw [hD.out]; rfl, fun v e => by rw [hD.out] at e; first | (cases e; rfl) | cases e | (injection e), hgF⟩
            | false =>
              rw [hko, if_neg (by decide)] at hDx
              have hkk : (!kindO KD) = true := by rw [hko]; rfl
              by_cases hr : r.length = 0
              · obtain rfl := hr0.out hr
                have hD : Hid (evR [a, b, c] = some ⟨n, KD, b, ⟨#[]⟩, ⟨#[]⟩⟩) := hDx
                clear hDx hr
                obtain ⟨k2, _⟩ := hb7.c 2 rfl
                obtain ⟨k3, _⟩ := hb7.c 3 rfl
                obtain ⟨k4, _⟩ := hb7.c 4 rfl
                (obtain ⟨z0, f0⟩ := hbz5.c 0 rfl
                 obtain ⟨z1, f1⟩ := hbz5.c 1 rfl
                 obtain ⟨z2, f2⟩ := hbz5.c 2 rfl
                 obtain ⟨z3, f3⟩ := hbz5.c 3 rfl
                 obtain ⟨z4, f4⟩ := hbz5.c 4 rfl)
                go_wp2_with fail
                refine (isKind_any _ _).mono ?_
                rintro e wq ⟨rfl, rfl⟩
                rw [hkk]
                go_wp2_with fail
                have hbF := ((((hbz5.set_ 0 (.int .i64 n) (by simp)).set_ 1 (.int .i64 KD) (by simp)).set_ 2 (.string b) (by simp)).set_ 3 (.string ⟨#[]⟩) (by simp)).set_ 4 (.string ⟨#[]⟩) (by simp)
                obtain ⟨q0, _⟩ := hbF.c 0 rfl
                obtain ⟨q1, _⟩ := hbF.c 1 rfl
                obtain ⟨q2, _⟩ := hbF.c 2 rfl
                obtain ⟨q3, _⟩ := hbF.c 3 rfl
                obtain ⟨q4, _⟩ := hbF.c 4 rfl
                have hgF := gr_set (gr_set (gr_set (gr_set (gr_set hgA5 (p := ⟨x2, 0, none⟩) (.inr hxl2) (.int .i64 n)) (p := ⟨x2, 1, none⟩) (.inr hxl2) (.int .i64 KD)) (p := ⟨x2, 2, none⟩) (.inr hxl2) (.string b)) (p := ⟨x2, 3, none⟩) (.inr hxl2) (.string ⟨#[]⟩)) (p := ⟨x2, 4, none⟩) (.inr hxl2) (.string ⟨#[]⟩)
                exact bodyPost_ret (v := .tuple #[.agg #[.int .i64 n, .int .i64 KD, .string b, .string ⟨#[]⟩, .string ⟨#[]⟩], .bool true]) (by simp [results, Tryz.results20, go_sem, q0, q1, q2, q3, q4]) rfl ⟨⟨n, KD, b, ⟨#[]⟩, ⟨#[]⟩⟩, by rw [hD.out]; rfl, fun v e => by rw [hD.out] at e; first | (cases e; rfl) | cases e | (injection e), hgF⟩
              · have hD : Hid (evR (a :: b :: c :: r) = none) := by
                  rw [Hid, hDx]
                  match r, hr with
                  | [], h => exact absurd rfl h
                  | _ :: _, _ => rfl
                have hle : (((r.length : Int) + 3) != 3) = true := by simp; omega
                clear hDx
                replace hr := hide hr
                (obtain ⟨z0, f0⟩ := hbz5.c 0 rfl
                 obtain ⟨z1, f1⟩ := hbz5.c 1 rfl
                 obtain ⟨z2, f2⟩ := hbz5.c 2 rfl
                 obtain ⟨z3, f3⟩ := hbz5.c 3 rfl
                 obtain ⟨z4, f4⟩ := hbz5.c 4 rfl)
                go_wp2_with fail
                refine (isKind_any _ _).mono ?_
                rintro e wq ⟨rfl, rfl⟩
                rw [hkk]
                go_wp2_with fail
                have hbF := ((((hbz5.set_ 0 (.int .i64 0) (by simp)).set_ 1 (.int .i64 0) (by simp)).set_ 2 (.string ⟨#[]⟩) (by simp)).set_ 3 (.string ⟨#[]⟩) (by simp)).set_ 4 (.string ⟨#[]⟩) (by simp)
                obtain ⟨q0, _⟩ := hbF.c 0 rfl
                obtain ⟨q1, _⟩ := hbF.c 1 rfl
                obtain ⟨q2, _⟩ := hbF.c 2 rfl
                obtain ⟨q3, _⟩ := hbF.c 3 rfl
                obtain ⟨q4, _⟩ := hbF.c 4 rfl
                have hgF := gr_set (gr_set (gr_set (gr_set (gr_set hgA5 (p := ⟨x2, 0, none⟩) (.inr hxl2) (.int .i64 0)) (p := ⟨x2, 1, none⟩) (.inr hxl2) (.int .i64 0)) (p := ⟨x2, 2, none⟩) (.inr hxl2) (.string ⟨#[]⟩)) (p := ⟨x2, 3, none⟩) (.inr hxl2) (.string ⟨#[]⟩)) (p := ⟨x2, 4, none⟩) (.inr hxl2) (.string ⟨#[]⟩)
                exact bodyPost_ret (v := .tuple #[.agg #[.int .i64 0, .int .i64 0, .string ⟨#[]⟩, .string ⟨#[]⟩, .string ⟨#[]⟩], .bool false]) (by simp [results, Tryz.results20, go_sem, q0, q1, q2, q3, q4]) rfl ⟨⟨0, 0, ⟨#[]⟩, ⟨#[]⟩, ⟨#[]⟩⟩, by rw [hD.out]; rfl, fun v e => by rw [hD.out] at e; first | (cases e; rfl) | cases e | (injection e), hgF⟩

end Go.Proofs.YtfleljmmfkkkpaaGreatDoor

namespace Go.Proofs.YtfleljmmfkkkpaaGreatDoor
open Go Go.RowKit Go.Bl

theorem linesK_sizeE (s : List UInt8) : (∀ x ∈ (linesK s).1, x.length ≤ s.length) ∧ (linesK s).1.length ≤ s.length + 1 := by
  unfold linesK
  split
  · simp
  · split
    · obtain ⟨h1, h2⟩ := pieces_size 10 s.dropLast
      rw [List.length_dropLast] at h1 h2
      exact ⟨fun x hx => by have := h1 x hx; omega, by simp only; omega⟩
    · exact pieces_size 10 s

theorem rdE_bad {st : List Ev} {Ld : List (List UInt8)} {E : Bool} {k : Nat} {x : List UInt8} {RR : List Ev × Int × Int} (hR : endE (readL stepE [] 0 Ld E) = RR) (hrd : readL stepE [] 0 Ld E = readL stepE st k (Ld.drop k) E) (hxd : Ld.drop k = x :: Ld.drop (k + 1)) (h : stepE st x = none ∨ (Ld.drop (k + 1) = [] ∧ E = false)) : RR = ([], (k : Int), 9) := by
  rw [← hR, hrd, hxd]
  rcases h with h | ⟨h, rfl⟩
  · rw [readL_bad _ _ _ h]; rfl
  · rw [h, readL_open]; rfl

theorem rdE_good {st st' : List Ev} {Ld : List (List UInt8)} {E : Bool} {k : Nat} {x : List UInt8} (hrd : readL stepE [] 0 Ld E = readL stepE st k (Ld.drop k) E) (hxd : Ld.drop k = x :: Ld.drop (k + 1)) (h : stepE st x = some st') (he : Ld.drop (k + 1) ≠ [] ∨ E = true) : readL stepE [] 0 Ld E = readL stepE st' (k + 1) (Ld.drop (k + 1)) E := by
  rw [hrd, hxd, readL_good _ _ _ h he]

set_option maxHeartbeats 4000000 in
set_option maxRecDepth 100000 in
theorem evRead_any (s : ByteArray) (w : World) :
    Calls Tryz.prog 6 #[.string s] w fun e w' => ∃ A c, e = .returned (.tuple #[.slice A (readE s.data.toList).1.length c, .int .i64 (readE s.data.toList).2.1, .int .i64 (readE s.data.toList).2.2]) ∧ Sl w' 0 A (readE s.data.toList).1 ∧ w.grownBy w' none := by
  have hsz := Lib.size_eq s
  obtain ⟨RR, hRR⟩ : ∃ r, readE s.data.toList = r := ⟨_, rfl⟩
  rw [hRR]
  by_cases hbig : 200000 < s.size
  · have hR : RR = ([], 0, 2) := by rw [← hRR]; unfold readE; rw [if_pos (by omega)]
    subst hR
    clear hRR hsz
    have hb : decide ((s.size : Int) > 200000) = true := by simp; omega
    go_enter Tryz.func6, Tryz.ntmps6
    go_wp2_with fail
    exact bodyPost_ret (v := .tuple #[.slice none 0 0, .int .i64 0, .int .i64 2]) (by simp [results, Tryz.results6, go_sem]) rfl ⟨none, 0, rfl, Sl.nil, World.grownBy.refl _ _⟩
  · have hb : decide ((s.size : Int) > 200000) = false := by simp; omega
    have hLn := kitLines_any s w (by omega)
    obtain ⟨Ld, hLd⟩ : ∃ l, (linesK s.data.toList).1 = l := ⟨_, rfl⟩
    obtain ⟨E, hE⟩ : ∃ l, (linesK s.data.toList).2 = l := ⟨_, rfl⟩
    have hLB : linesB s = Ld.map mkB := by unfold linesB; rw [hLd]
    rw [hE] at hLn
    have hR : Hid (endE (readL stepE [] 0 Ld E) = RR) := by rw [Hid, ← hRR]; unfold readE; rw [if_neg (by omega), hLd, hE]
    obtain ⟨hk1, hk2⟩ := linesK_sizeE s.data.toList
    rw [hLd] at hk1 hk2
    have hls : Hid (∀ x ∈ linesB s, x.size ≤ 200000) := by
      intro x hx
      rw [hLB] at hx
      obtain ⟨y, hy, rfl⟩ := List.mem_map.1 hx
      have := hk1 y hy
      rw [mkB_size]; omega
    have hll : (linesB s).length ≤ 200001 := by rw [hLB, List.length_map]; omega
    clear hk1 hk2
    obtain ⟨i0, hi, hz, hi1, hi2⟩ := info_parts info_ev
    generalize linesB s = L at *
    replace hsz := hide hsz
    replace hRR := hide hRR
    replace hLd := hide hLd
    replace hE := hide hE
    replace hLB := hide hLB
    go_enter Tryz.func6, Tryz.ntmps6
    go_wp2_with fail
    refine hLn.mono ?_
    rintro e w1 ⟨A1, c1, rfl, hL, hg1⟩
    clear hLn
    go_wp2_with fail
    go_loopw [7, 23] (fun o i wr => ∃ (k : Nat) (st : List Ev) (A2 : Option Addr) (c2 : Nat), k ≤ L.length ∧ i = .int .i64 k ∧ o = .slice A2 st.length c2 ∧ Own wr w1.heap.size 37 A2 c2 st ∧ Hid (readL stepE [] 0 Ld E = readL stepE st k (Ld.drop k) E) ∧ Hid (st.length ≤ k) ∧ w1.grownBy wr none) (fun _ i _ => L.length - (intOf i).toNat)
    case atStart => exact ⟨0, [], none, 0, Nat.zero_le _, rfl, rfl, Own.nil _ _ _, rfl, Nat.le_refl _, World.grownBy.refl _ _⟩
    case round =>
      obtain ⟨k, st, A2, c2, hk, rfl, rfl, hown, hrd, hrk, hg⟩ := hrel
      by_cases hlt : k < L.length
      · obtain ⟨g, o, cx, rfl, hb0, hb1, rfl, hc⟩ := (hL.pure hg).at_ (by decide) hlt
        have c0 : wr.cell? ⟨g, o + k, none⟩ = some (.string L[k]) := by have := hc 0 _ rfl; rwa [show Enc.sz ByteArray = 1 from rfl, Nat.mul_one] at this
        clear hc
        have hxs := hls.out _ (List.getElem_mem hlt)
        have hxd : Hid (Ld.drop k = L[k].data.toList :: Ld.drop (k + 1)) := by
          have hlk : k < Ld.length := by have := congrArg List.length hLB.out; rw [List.length_map] at this; omega
          have e : L[k] = mkB Ld[k] := by simp only [hLB.out, List.getElem_map]
          rw [Hid, e, mkB_data]
          exact List.drop_eq_getElem_cons hlk
        have hlLd : L.length = Ld.length := by have := congrArg List.length hLB.out; rwa [List.length_map] at this
        replace hlLd := hide hlLd
        generalize hxk : L[k] = x at *
        clear hxk
        have hRl := fun wx => evReadLine_any x wx hxs
        have hst : stepE st x.data.toList = (evR (piecesB 32 x)).map fun d => st ++ [d] := by unfold stepE; rw [evR_pieces]
        obtain ⟨R, hRe⟩ : ∃ R, evR (piecesB 32 x) = R := ⟨_, rfl⟩
        rw [hRe] at hRl hst
        clear hRe
        have hrkk := hrk.out
        go_wp2_with fail
        refine (hRl _).mono ?_
        rintro e w2 ⟨d, rfl, hdv, hg2⟩
        clear hRl
        go_upto_region 9 with fail
        obtain ⟨w10, hw10⟩ : ∃ x, x = (w2).alloc (.cells [.int .i64 d.at_, .int .i64 d.kind, .string d.pr, .string d.job, .string d.mat].toArray 37) := ⟨_, rfl⟩
        have hg10 : (w2).grownBy w10 none := by rw [hw10]; exact gr_alloc (World.grownBy.refl _ _) _
        have hb10 : Box w10 (w2).heap.size 37 [.int .i64 d.at_, .int .i64 d.kind, .string d.pr, .string d.job, .string d.mat] := by rw [hw10]; exact Box.new _ _ _
        have hxs10 := hb10.lt
        rw [← hw10]
        clear hw10
        obtain ⟨x10, hx10⟩ : ∃ x, x = (w2).heap.size := ⟨_, rfl⟩
        rw [← hx10] at hb10 hxs10 ⊢
        have hxl10 : (w2).heap.size ≤ x10 := by omega
        clear hx10
        have hgr := hg2.t hg10
        have hgA := hg1.t (hg.t hgr)
        obtain ⟨b0, _⟩ := hb10.c 0 rfl
        obtain ⟨b1, _⟩ := hb10.c 1 rfl
        obtain ⟨b2, _⟩ := hb10.c 2 rfl
        obtain ⟨b3, _⟩ := hb10.c 3 rfl
        obtain ⟨b4, _⟩ := hb10.c 4 rfl
        have hown10 := hown.pure hgr
        have hsA := (hg.t hgr).size
        clear hown
        cases R with
        | none =>
          have hRk := rdE_bad hR.out hrd.out hxd.out (.inl hst)
          replace hRk := hide hRk
          clear hst hown10 hdv
          go_wp2_with fail
          exact bodyPost_ret (v := .tuple #[.slice none 0 0, .int .i64 k, .int .i64 9]) (by simp [results, Tryz.results6, go_sem]) rfl ⟨none, 0, by rw [hRk.out]; rfl, by rw [hRk.out]; exact Sl.nil, hgA⟩
        | some v =>
          obtain rfl := hdv v rfl
          have hst' : stepE st x.data.toList = some (st ++ [d]) := hst
          clear hst hdv
          cases E with
          | true =>
            have hrd' := hide (rdE_good hrd.out hxd.out hst' (.inr rfl))
            clear hst'
            clear hrd
            go_wp2_with (at_builtin; refine wpList_push (α := Ev) _ rfl (.tmp 47) (.tmp 49) _ rfl w1.heap.size 37 i0 _ 64 Tryz.underlying27 hi hz hi1 hi2 rfl _ _ _ st rfl ?c1 (by exact hown10.pure (gr_alloc (World.grownBy.refl _ _) _)) 0 ⟨_, 0, none⟩ 1 1 [d] rfl rfl (by exact sl_oneAt _ 0 _ _ _ _ (by first | rfl | simp) (Nat.zero_le _) rfl) ?c2 ?c3 ?c4 ?_)
            case c1 => rfl
            case c2 => first | omega | (simp; omega)
            case c3 => first | (simp [maxLen]; omega) | (unfold maxLen; omega)
            case c4 => first | omega | (simp; omega)
            intro A5 c5 w5 hown5 hup5
            have hg5 := hup5.gr (Nat.le_refl _) (gr_alloc (hg.t hgr) (.cells #[.int .i64 d.at_, .int .i64 d.kind, .string d.pr, .string d.job, .string d.mat] 37))
            have hl5 : st.length + 1 = (st ++ [d]).length := by simp
            replace hl5 := hide hl5
            clear hown10 hup5
            go_wp2_with fail
            first
              | exact ⟨⟨k + 1, st ++ [d], A5, c5, by omega, by go_num, by simp, hown5, hrd'.out, by rw [Hid, ← hl5.out]; omega, hg5⟩, by simp [intOf]; omega⟩
              | (go_roundw; (case rel => exact ⟨k + 1, st ++ [d], A5, c5, by omega, by go_num, by simp, hown5, hrd'.out, by rw [Hid, ← hl5.out]; omega, hg5⟩); (case measure => simp [intOf]; omega))
          | false =>
            by_cases hA : k + 1 = L.length
            · have hd : ((k : Int) == (L.length : Int) - 1) = true := by simp; omega
              have hdl : Ld.drop (k + 1) = [] := List.drop_of_length_le (by have := hlLd.out; omega)
              have hRk := rdE_bad hR.out hrd.out hxd.out (.inr ⟨hdl, rfl⟩)
              replace hRk := hide hRk
              clear hdl hown10 hst'
              replace hA := hide hA
              go_wp2_with fail
              exact bodyPost_ret (v := .tuple #[.slice none 0 0, .int .i64 k, .int .i64 9]) (by simp [results, Tryz.results6, go_sem]) rfl ⟨none, 0, by rw [hRk.out]; rfl, by rw [hRk.out]; exact Sl.nil, hgA⟩
            · have hd : ((k : Int) == (L.length : Int) - 1) = false := by rw [beq_eq_false_iff_ne]; omega
              have hne : Ld.drop (k + 1) ≠ [] := by
                intro e
                have := congrArg List.length e
                rw [List.length_drop] at this
                have := hlLd.out
                simp at *; omega
              have hrd' := hide (rdE_good hrd.out hxd.out hst' (.inl hne))
              clear hne
              replace hA := hide hA
              clear hst'
              clear hrd
              go_wp2_with (at_builtin; refine wpList_push (α := Ev) _ rfl (.tmp 47) (.tmp 49) _ rfl w1.heap.size 37 i0 _ 64 Tryz.underlying27 hi hz hi1 hi2 rfl _ _ _ st rfl ?c1 (by exact hown10.pure (gr_alloc (World.grownBy.refl _ _) _)) 0 ⟨_, 0, none⟩ 1 1 [d] rfl rfl (by exact sl_oneAt _ 0 _ _ _ _ (by first | rfl | simp) (Nat.zero_le _) rfl) ?c2 ?c3 ?c4 ?_)
              case c1 => rfl
              case c2 => first | omega | (simp; omega)
              case c3 => first | (simp [maxLen]; omega) | (unfold maxLen; omega)
              case c4 => first | omega | (simp; omega)
              intro A5 c5 w5 hown5 hup5
              have hg5 := hup5.gr (Nat.le_refl _) (gr_alloc (hg.t hgr) (.cells #[.int .i64 d.at_, .int .i64 d.kind, .string d.pr, .string d.job, .string d.mat] 37))
              have hl5 : st.length + 1 = (st ++ [d]).length := by simp
              replace hl5 := hide hl5
              clear hown10 hup5
              go_wp2_with fail
              first
                | exact ⟨⟨k + 1, st ++ [d], A5, c5, by omega, by go_num, by simp, hown5, hrd'.out, by rw [Hid, ← hl5.out]; omega, hg5⟩, by simp [intOf]; omega⟩
                | (go_roundw; (case rel => exact ⟨k + 1, st ++ [d], A5, c5, by omega, by go_num, by simp, hown5, hrd'.out, by rw [Hid, ← hl5.out]; omega, hg5⟩); (case measure => simp [intOf]; omega))
      · obtain rfl : k = L.length := by omega
        have hsl := hown.sl.mono (Nat.zero_le _)
        have hdl : Ld.drop L.length = [] := List.drop_of_length_le (by have := congrArg List.length hLB.out; rw [List.length_map] at this; omega)
        have hend : finE st = RR := by rw [← hR.out, hrd.out, hdl]; rfl
        have hC := evTextFault_any A2 c2 st wr hsl
        obtain ⟨F, hF⟩ : ∃ F, evsF st = F := ⟨_, rfl⟩
        rw [hF] at hC
        unfold finE at hend
        rw [hF] at hend
        clear hrd hdl hF
        by_cases hF0 : F = 0
        · subst hF0
          rw [if_pos rfl] at hend
          replace hend := hide hend
          go_wp2_with fail
          refine hC.mono ?_
          rintro e w2 ⟨rfl, hg2⟩
          clear hC
          go_wp2_with fail
          exact bodyPost_ret (v := .tuple #[.slice A2 st.length c2, .int .i64 0, .int .i64 0]) (by simp [results, Tryz.results6, go_sem]) rfl ⟨A2, c2, by rw [← hend.out], by rw [← hend.out]; exact hsl.pure hg2, hg1.t (hg.t hg2)⟩
        · have hb0 : (F != 0) = true := by simp [hF0]
          rw [if_neg hF0] at hend
          replace hend := hide hend
          replace hF0 := hide hF0
          go_wp2_with fail
          refine hC.mono ?_
          rintro e w2 ⟨rfl, hg2⟩
          clear hC
          go_wp2_with fail
          exact bodyPost_ret (v := .tuple #[.slice none 0 0, .int .i64 0, .int .i64 F]) (by simp [results, Tryz.results6, go_sem]) rfl ⟨none, 0, by rw [← hend.out]; rfl, by rw [← hend.out]; exact Sl.nil, hg1.t (hg.t hg2)⟩

end Go.Proofs.YtfleljmmfkkkpaaGreatDoor

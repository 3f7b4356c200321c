/- Contracts of functions that this seat's laws reach, each: what one call returns and what it leaves in memory; no condition beyond each theorem's own hypotheses. -/
import Derived.Test.YtcglkjpfnnehhaaGreatDoorZqDrawB
import Derived.Test.YtcglkjpfnnehhaaGreatDoorZqMTextB
set_option linter.unusedVariables false
set_option linter.unusedSimpArgs false
namespace Go.Proofs.YtcglkjpfnnehhaaGreatDoor
open Go Go.RowKit Go.Bl

set_option maxHeartbeats 1000000 in
theorem kitWordsC_any (s : ByteArray) (w : World) (hs : s.size ≤ 200000) :
    Calls Tryz.prog 65 #[.string s] w fun e w' => ∃ A c, e = .returned (.tuple #[.slice A (wordsR (piecesB 32 s)).length c, .bool (okW (piecesB 32 s))]) ∧ (wordsR (piecesB 32 s)).length ≤ c ∧ Sl w' 0 A (wordsR (piecesB 32 s)) ∧ w.grownBy w' none := by
  have hS := split_any s 32 w (by omega)
  have hp2 := (piecesB_small 32 hs).2
  generalize piecesB 32 s = ps at *
  go_enter Tryz.func65, Tryz.ntmps65
  go_wp2_with fail
  refine hS.mono ?_
  rintro e w1 ⟨rfl, hsl, hg1⟩
  clear hS
  have hl := hsl.mono (Nat.zero_le _)
  clear hsl
  generalize (some ⟨w.heap.size, 0, none⟩ : Option Addr) = A1 at *
  go_wp2_with fail
  go_loopw [11] (fun i wr => ∃ k : Nat, k ≤ ps.length ∧ i = .int .i64 k ∧ Hid (okW (ps.take k) = true) ∧ w1.grownBy wr none) (fun i _ => ps.length - (intOf i).toNat)
  case atStart => exact ⟨0, Nat.zero_le _, rfl, rfl, World.grownBy.refl _ _⟩
  case round =>
    obtain ⟨k, hk, rfl, hall, hg⟩ := hrel
    by_cases hlt : k < ps.length
    · obtain ⟨g, o, cx, rfl, hb0, hb1, rfl, hc⟩ := (hl.pure hg).at_ (by decide) hlt
      have c0 : wr.cell? ⟨g, o + k, none⟩ = some (.string ps[k]) := by have := hc 0 _ rfl; rwa [show Enc.sz ByteArray = 1 from rfl, Nat.mul_one] at this
      clear hc
      have hsn := hide (okW_snoc hlt)
      have hht := hide (@okW_hit ps k hlt)
      generalize ps[k] = x at *
      have hemp : x.toList.isEmpty = x.data.toList.isEmpty := by rw [Lib.toList_data]
      cases he : x.data.toList.isEmpty with
      | true =>
        rw [he] at hemp
        have hR := hht.out he
        have hR2 : wordsR ps = [] := by unfold wordsR; rw [hR]; rfl
        replace hR := hide hR
        replace hR2 := hide hR2
        replace he := hide he
        clear hht hsn hall
        go_wp2_with fail
        go_ret2
        rw [hR.out, hR2.out]
        exact ⟨none, 0, rfl, Nat.le_refl _, Sl.nil, hg1.t hg⟩
      | false =>
        rw [he] at hemp
        have hR : Hid (okW (ps.take (k + 1)) = true) := by rw [Hid, hsn.out, hall.out, he]; rfl
        replace he := hide he
        clear hht hsn hall
        go_wp2_with fail
        first
          | exact ⟨⟨k + 1, by omega, by go_num, hR, hg⟩, by simp [intOf]; omega⟩
          | (go_roundw; (case rel => exact ⟨k + 1, by omega, by go_num, hR, hg⟩); (case measure => simp [intOf]; omega))
    · obtain rfl : k = ps.length := by omega
      have hR := hall.out
      rw [List.take_length] at hR
      have hR2 : wordsR ps = ps := by unfold wordsR; rw [hR]; rfl
      replace hR := hide hR
      replace hR2 := hide hR2
      clear hall
      go_wp2_with fail
      go_ret2
      rw [hR.out, hR2.out]
      exact ⟨A1, _, rfl, Nat.le_refl _, hl.pure hg, hg1.t hg⟩

/-- the state of the readers: block xo holds the mesh read so far -/
def RdM (W0 : World) (xo lo k : Nat) (st : MeshV) (w : World) : Prop := ∃ (A : Option Addr) (c : Nat) (B : Option Addr) (d : Nat), Own w lo 46 A c st.vs ∧ Own w lo 51 B d st.fs ∧ Box w xo 29 [.slice A st.vs.length c, .slice B st.fs.length d] ∧ st.vs.length ≤ k ∧ st.fs.length ≤ k ∧ W0.grownBy w none ∧ W0.heap.size ≤ xo ∧ xo < lo ∧ lo ≤ w.heap.size

theorem RdM.gr {W0 : World} {xo lo k : Nat} {st : MeshV} {w : World} (h : RdM W0 xo lo k st w) : W0.grownBy w none := by
  obtain ⟨A, c, B, d, _, _, _, _, _, q, _⟩ := h; exact q

theorem RdM.up {W0 : World} {xo lo k : Nat} {st : MeshV} {w w' : World} (h : RdM W0 xo lo k st w) (hg : w.grownBy w' none) : RdM W0 xo lo k st w' := by
  obtain ⟨A, c, B, d, q1, q1', q2, q3, q3', q5, q6, q7, q8⟩ := h
  exact ⟨A, c, B, d, q1.pure hg, q1'.pure hg, q2.pure hg, q3, q3', q5.t hg, q6, q7, Nat.le_trans q8 hg.size⟩

theorem RdM.more {W0 : World} {xo lo k n : Nat} {st : MeshV} {w : World} (h : RdM W0 xo lo k st w) (hk : k ≤ n) : RdM W0 xo lo n st w := by
  obtain ⟨A, c, B, d, q1, q1', q2, q3, q3', q5⟩ := h
  exact ⟨A, c, B, d, q1, q1', q2, by omega, by omega, q5⟩

def wM (st : MeshV) (ps : List ByteArray) : Option MeshV := wordsM st (ps.map (·.data.toList))

theorem stepM_pieces (st : MeshV) (x : ByteArray) : stepM st x.data.toList = wM st (piecesB 32 x) := by unfold stepM wM; rw [piecesB_data]

theorem wM_len {st : MeshV} {ps : List ByteArray} (h : ps.length ≠ 4) : wM st ps = none := by
  unfold wM
  match ps, h with
  | [], _ => rfl
  | [_], _ => rfl
  | [_, _], _ => rfl
  | [_, _, _], _ => rfl
  | [_, _, _, _], h => exact absurd rfl h
  | _ :: _ :: _ :: _ :: _ :: _, _ => rfl

theorem numsB_3 (a b c : ByteArray) : numsB [a, b, c] = numsK [a.data.toList, b.data.toList, c.data.toList] := rfl

theorem wM_none {st : MeshV} {t a b c : ByteArray} (h : numsB [a, b, c] = none) : wM st [t, a, b, c] = none := by
  show wordsM st [t.data.toList, a.data.toList, b.data.toList, c.data.toList] = none
  rw [numsB_3] at h
  unfold wordsM
  simp only [h]

theorem wM_v {st : MeshV} {t a b c : ByteArray} {x y z : Int} (h : numsB [a, b, c] = some [x, y, z]) (ht : t.data.toList = [118]) (h0 : st.fs = []) : wM st [t, a, b, c] = some ⟨st.vs ++ [⟨x, y, z⟩], st.fs⟩ := by
  show wordsM st [t.data.toList, a.data.toList, b.data.toList, c.data.toList] = _
  rw [numsB_3] at h
  unfold wordsM
  simp only [h]
  rw [if_pos ⟨ht, h0⟩]

theorem wM_f {st : MeshV} {t a b c : ByteArray} {x y z : Int} (h : numsB [a, b, c] = some [x, y, z]) (ht : t.data.toList = [102]) : wM st [t, a, b, c] = some ⟨st.vs, st.fs ++ [⟨x, y, z⟩]⟩ := by
  show wordsM st [t.data.toList, a.data.toList, b.data.toList, c.data.toList] = _
  rw [numsB_3] at h
  unfold wordsM
  simp only [h]
  rw [if_neg (fun e => by rw [ht] at e; exact absurd e.1 (by decide)), if_pos ht]

theorem wM_no {st : MeshV} {t a b c : ByteArray} {x y z : Int} (h : numsB [a, b, c] = some [x, y, z]) (h1 : ¬ (t.data.toList = [118] ∧ st.fs = [])) (h2 : t.data.toList ≠ [102]) : wM st [t, a, b, c] = none := by
  show wordsM st [t.data.toList, a.data.toList, b.data.toList, c.data.toList] = _
  rw [numsB_3] at h
  unfold wordsM
  simp only [h]
  rw [if_neg h1, if_neg h2]

theorem wM_bad {st : MeshV} {ps : List ByteArray} (h : okW ps = false) : wM st ps = none := by
  by_cases h4 : ps.length = 4
  · obtain ⟨t, a, b, c, rfl⟩ : ∃ t a b c, ps = [t, a, b, c] := by
      match ps, h4 with
      | [t, a, b, c], _ => exact ⟨t, a, b, c, rfl⟩
    rcases hN : numsB [a, b, c] with _ | r
    · exact wM_none hN
    · have hn : ∀ u ∈ [a, b, c], u.data.toList ≠ [] := by
        obtain ⟨x, y, z, rfl⟩ : ∃ x y z, r = [x, y, z] := by
          have := numsK_len hN
          match r, this with
          | [x, y, z], _ => exact ⟨x, y, z, rfl⟩
        rw [numsB_3] at hN
        obtain ⟨k1, k2, k3⟩ := numsK_three.1 hN
        have hk : numK [] = none := by decide
        intro u hu e
        simp only [List.mem_cons, List.not_mem_nil, or_false] at hu
        rcases hu with rfl | rfl | rfl
        · rw [e, hk] at k1; cases k1
        · rw [e, hk] at k2; cases k2
        · rw [e, hk] at k3; cases k3
      have ht : t.data.toList = [] := by
        unfold okW at h
        simp only [List.all_cons, List.all_nil, Bool.and_true, Bool.and_eq_false_iff, Bool.not_eq_false', List.isEmpty_iff] at h
        rcases h with h | h | h | h
        · exact h
        · exact absurd h (hn a (by simp))
        · exact absurd h (hn b (by simp))
        · exact absurd h (hn c (by simp))
      obtain ⟨x, y, z, rfl⟩ : ∃ x y z, r = [x, y, z] := by
        have := numsK_len hN
        match r, this with
        | [x, y, z], _ => exact ⟨x, y, z, rfl⟩
      exact wM_no hN (by rw [ht]; simp) (by rw [ht]; decide)
  · exact wM_len h4

end Go.Proofs.YtcglkjpfnnehhaaGreatDoor

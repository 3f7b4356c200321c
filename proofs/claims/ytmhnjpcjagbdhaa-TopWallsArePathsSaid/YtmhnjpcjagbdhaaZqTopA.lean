/- Contracts of functions that this seat's laws reach, each: what one call returns and what it leaves in memory; no condition beyond each theorem's own hypotheses. -/
import Derived.Test.YtmhnjpcjagbdhaaZqGeoE
import Derived.Test.YtmhnjpcjagbdhaaZqSimpA
import Derived.Test.YtmhnjpcjagbdhaaZqFlowB
import Derived.Test.YtmhnjpcjagbdhaaZqFlowD
import Derived.Test.YtmhnjpcjagbdhaaZqRegH
set_option linter.unusedVariables false
set_option linter.unusedSimpArgs false
namespace Go.Proofs.Ytmhnjpcjagbdhaa
open Go Go.RowKit Go.Bl

set_option maxHeartbeats 2000000 in
set_option maxRecDepth 100000 in
theorem pathsCl_any (A : Option Addr) (c : Nat) (rs : List (List Pt)) (w : World) (hl : Sl w 0 A rs) (hn : ∀ r ∈ rs, 0 < r.length) (h100 : rs.length ≤ 100) :
    Calls Try.prog 6 #[.slice A rs.length c] w fun e w' => ∃ A' c', e = .returned (.slice A' (pathsR rs).length c') ∧ Sl w' 0 A' (pathsR rs) ∧ w.grownBy w' none := by
  obtain ⟨i0, hi, hz, h1, h2⟩ := info_parts info_path
  replace hn := hide hn
  have hpl : (pathsR rs).length = rs.length := by unfold pathsR; rw [List.length_map]
  go_enter Try.func6, Try.ntmps6
  go_wp2_with fail
  go_loopw [3, 8] (fun o i wr => ∃ (k : Nat) (raws : List RawP) (A2 : Option Addr) (c2 : Nat), k ≤ rs.length ∧ i = .int .i64 k ∧ o = .slice A2 raws.length c2 ∧ Own wr w.heap.size 35 A2 c2 raws ∧ Hid (All2 (NestOf.ok (ρ := RawP) (α := PathV) w 0) raws ((pathsR rs).take k)) ∧ Hid (raws.length = k) ∧ w.grownBy wr none) (fun _ i _ => rs.length - (intOf i).toNat)
  case atStart => exact ⟨0, [], none, 0, Nat.zero_le _, rfl, rfl, Own.nil _ _ _, All2.nil, rfl, World.grownBy.refl _ _⟩
  case round =>
    obtain ⟨k, raws, A2, c2, hk, rfl, rfl, hO, hA, hrl, hg⟩ := hrel
    by_cases hlt : k < rs.length
    · obtain ⟨g, o, Bk, dk, rfl, hb1, c0, hcp, hsl⟩ := sl_inner' hl hlt
      replace c0 := hg.k c0
      have h0k := hn.out _ (List.getElem_mem hlt)
      have hrl2 : raws.length ≤ 100 := by have := hrl.out; omega
      have hnew : Hid (All2 (NestOf.ok (ρ := RawP) (α := PathV) w 0) (raws ++ [⟨Bk, rs[k].length, dk, true⟩]) ((pathsR rs).take (k + 1))) := by
        have e : (pathsR rs).take (k + 1) = (pathsR rs).take k ++ [ringP rs[k]] := by
          rw [List.take_succ_eq_append_getElem (by rw [hpl]; exact hlt)]
          unfold pathsR
          rw [List.getElem_map]
        rw [Hid, e]
        refine hA.out.snoc ⟨rfl, rfl, hcp, hsl, fun q hq => ⟨Nat.zero_le _, ?_⟩⟩
        obtain ⟨g', o', cx, e', _, hb', _⟩ := hsl.at_ (by decide) h0k
        have e'' : Bk = some ⟨g', o', none⟩ := e'
        rw [show (RawP.mk Bk rs[k].length dk true).A = Bk from rfl, e''] at hq
        cases hq
        exact hb'
      have hl2 : Hid ((raws ++ [(⟨Bk, rs[k].length, dk, true⟩ : RawP)]).length = k + 1) := by rw [Hid, List.length_append, hrl.out]; rfl
      clear hA hcp hsl h0k
      generalize rs[k].length = n at *
      have hsz := hg.size
      go_wp2_with (at_builtin; refine wpList_push (α := RawP) _ rfl (.tmp 12) (.tmp 15) _ rfl w.heap.size 35 i0 _ 32 Try.underlying31 hi hz h1 h2 rfl _ _ _ raws rfl rfl (by exact hO.pure (gr_alloc (World.grownBy.refl _ _) _)) 0 ⟨_, 0, none⟩ 1 1 [⟨Bk, n, dk, true⟩] rfl rfl (by exact sl_oneAt _ 0 [.slice Bk n dk, .bool true] _ _ _ (by first | rfl | simp) (Nat.zero_le _) rfl) ?d2 ?d3 ?d4 ?_)
      case d2 => simp; omega
      case d3 => simp [maxLen]; omega
      case d4 => simp; omega
      intro A6 c6 w6 hO6 hU6
      have hgy := hU6.gr (Nat.le_refl _) (hg.t (gr_alloc (World.grownBy.refl _ _) (.cells #[.slice Bk n dk, .bool true] 35)))
      go_wp2_with fail
      (go_roundw; (case rel => exact ⟨k + 1, raws ++ [⟨Bk, n, dk, true⟩], A6, c6, by omega, by go_num, by first | rfl | simp, hO6, hnew, hl2, hgy⟩); (case measure => simp [intOf]; omega))
    · obtain rfl : k = rs.length := by omega
      have hA3 := hA.out
      rw [List.take_of_length_le (by rw [hpl]; exact Nat.le_refl _)] at hA3
      have hOl : OwnN RawP wr 0 35 A2 c2 (pathsR rs) := ⟨raws, hO.lower (Nat.zero_le _), hA3.imp fun x y hx => ⟨NestOf.gr (ρ := RawP) (lo := 0) hx hg (fun q _ e => by cases e), fun q hq e => by have h3 := (hO.blk_lt e).1; have h4 := (hx.2.2.2.2 q hq).2; omega⟩⟩
      have hlen : raws.length = (pathsR rs).length := hA3.len
      clear hA hA3
      replace hOl := hide hOl.sl
      replace hlen := hide hlen
      go_wp2_with fail
      go_ret
      exact ⟨A2, c2, by rw [← hlen.out]; rfl, hOl.out, hg⟩

def tSq : List (List Pt) := [[⟨0, 0⟩, ⟨4, 0⟩, ⟨4, 4⟩, ⟨0, 4⟩]]

def tBead : List Bead := [⟨10, 3, 2⟩]

theorem t_reg : regF tSq = 0 := by decide

theorem t_area : areaT tSq = 32 := by
  unfold areaT
  rw [if_pos t_reg]
  decide

theorem t_vol : volumeOf tBead = 60 := by kernel_rfl

theorem t_fed : fedFault tBead = 0 := by kernel_rfl

set_option maxHeartbeats 1600000 in
theorem h06facts_any (w : World) : Calls Try.prog 10 #[] w fun e w' => e = .returned (.bool true) ∧ w.grownBy w' none := by
  go_enter Try.func10, Try.ntmps10
  go_wp2_with fail
  obtain ⟨W1, hW1⟩ : ∃ x, x = (w).alloc (.cells #[.int .i64 10, .int .i64 3, .int .i64 2] 54) := ⟨_, rfl⟩
  have hs1 : Sl W1 0 (some ⟨(w).heap.size, 0, none⟩) (tBead) := by rw [hW1]; exact sl_oneAt w 0 [.int .i64 10, .int .i64 3, .int .i64 2] _ _ _ rfl (Nat.zero_le _) rfl
  have hg1 : (w).grownBy W1 none := by rw [hW1]; exact gr_alloc (World.grownBy.refl _ _) _
  have hz1 : (w).heap.size + 1 = W1.heap.size := by rw [hW1]; simp
  rw [← hW1]
  try rw [hz1]
  clear hW1
  have hV := volumeGo_any (some ⟨w.heap.size, 0, none⟩) 1 tBead W1 hs1
  rw [t_vol, t_fed] at hV
  refine hV.mono ?_
  rintro e w2 ⟨rfl, h2⟩
  have hgw := gr_trans hg1 h2
  clear hV hs1 hg1 h2 hz1
  go_wp2_with fail
  obtain ⟨W3, hW3⟩ : ∃ x, x = w2.alloc (.cells #[.int .i64 0, .int .i64 0, .int .i64 4, .int .i64 0, .int .i64 4, .int .i64 4, .int .i64 0, .int .i64 4] 41) := ⟨_, rfl⟩
  have hs3 : Sl W3 0 (some ⟨w2.heap.size, 0, none⟩) ([⟨0, 0⟩, ⟨4, 0⟩, ⟨4, 4⟩, ⟨0, 4⟩] : List Pt) := by
    rw [hW3]
    exact sl_lit w2 0 [.int .i64 0, .int .i64 0, .int .i64 4, .int .i64 0, .int .i64 4, .int .i64 4, .int .i64 0, .int .i64 4] _ _ (Nat.zero_le _) (by simp [maxLen]) ⟨_, _, rfl, rfl, _, _, rfl, rfl, _, _, rfl, rfl, _, [], rfl, rfl, rfl⟩
  have hg3 : w2.grownBy W3 none := by rw [hW3]; exact gr_alloc (World.grownBy.refl _ _) _
  have hz3 : w2.heap.size + 1 = W3.heap.size := by rw [hW3]; simp
  rw [← hW3, hz3]
  clear hW3
  obtain ⟨W4, hW4⟩ : ∃ x, x = W3.alloc (.cells #[.slice (some ⟨w2.heap.size, 0, none⟩) 4 4] 33) := ⟨_, rfl⟩
  have hg4 : W3.grownBy W4 none := by rw [hW4]; exact gr_alloc (World.grownBy.refl _ _) _
  have hs4 : Sl W4 0 (some ⟨W3.heap.size, 0, none⟩) tSq := by
    rw [hW4]
    exact sl_lit W3 0 [.slice (some ⟨w2.heap.size, 0, none⟩) 4 4] _ _ (Nat.zero_le _) (by simp [maxLen, tSq]) ⟨_, [], rfl, ⟨_, 4, rfl, Nat.le_refl _, by rw [← hW4]; exact hs3.pure hg4⟩, rfl⟩
  rw [← hW4]
  clear hW4
  replace hgw := gr_trans hgw (gr_trans hg3 hg4)
  have hA := area_any (some ⟨W3.heap.size, 0, none⟩) 1 tSq W4 hs4 (by decide)
  rw [t_area, t_reg] at hA
  clear hs3 hs4 hg3 hg4 hz3
  refine hA.mono ?_
  rintro e w5 ⟨rfl, h5⟩
  go_wp2_with fail
  go_ret
  exact ⟨rfl, gr_trans hgw h5⟩

end Go.Proofs.Ytmhnjpcjagbdhaa

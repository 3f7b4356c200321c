/- Contracts of functions that this seat's laws reach, each: what one call returns and what it leaves in memory; no condition beyond each theorem's own hypotheses. -/
import Derived.Test.YtmgcohfeijcgdaaGreatDoorMChgA
import Derived.Test.YtmgcohfeijcgdaaGreatDoorMRightP
set_option linter.unusedVariables false
set_option linter.unusedSimpArgs false
namespace Go.Proofs.YtmgcohfeijcgdaaGreatDoor
open Go Go.RowKit Go.Bl

theorem ended_len {L : List (List UInt8)} (h : ∀ x ∈ L, x.length ≤ 50) : (ended L).length ≤ 51 * L.length := by
  induction L with
  | nil => simp [ended]
  | cons x L ih =>
    have h1 := h x (by simp)
    have h2 := ih (fun y hy => h y (List.mem_cons_of_mem _ hy))
    rw [ended_cons, List.length_append, List.length_cons, List.length_cons]; omega

theorem text_small {l : List PathV} (hp : pathsF l = 0) (hl : l.length ≤ 5) (h4 : ∀ p ∈ l, p.pts.length ≤ 4) : (pathText l).length ≤ 2000 := by
  have h1 : ∀ x ∈ allLines l, x.length ≤ 50 := by
    intro x hx
    unfold allLines at hx
    obtain ⟨y, hy, hxy⟩ := List.mem_flatten.1 hx
    obtain ⟨p, hpm, rfl⟩ := List.mem_map.1 hy
    rcases List.mem_cons.1 hxy with rfl | h
    · cases p.cl <;> decide
    · obtain ⟨q, hq, rfl⟩ := List.mem_map.1 h
      exact ptLine_len (near_of ((pathF_zero ((pathsF_zero hp).2 p hpm)).2.2 q hq))
  have h2 : (allLines l).length ≤ 5 * l.length := by
    clear h1 hl hp
    induction l with
    | nil => simp [allLines]
    | cons p l ih =>
      have e1 := h4 p (by simp)
      have e2 := ih (fun q hq => h4 q (List.mem_cons_of_mem _ hq))
      rw [allLines_cons, List.length_append, List.length_cons]
      have : (pathLines p).length = p.pts.length + 1 := by simp [pathLines]
      omega
  have := ended_len h1
  unfold pathText
  omega

/-- the table lies below a block -/
def TabLt (b : Nat) : Prop := ∀ g, Tryz.prog.globalNamed "internal/strconv.uint64pow10" = some g → g < b

theorem Tab.lt {w : World} (h : Tab w) : TabLt w.heap.size := by
  intro g hg
  unfold Tab Lib.TabIs World.var? at h
  rw [hg] at h
  simp only [Option.bind_some] at h
  cases hb : w.heap[g]? with
  | none => rw [hb] at h; cases h
  | some o => exact (Array.getElem?_eq_some_iff.1 hb).1

theorem Tab.s {w w' : World} {b : Nat} {N : Int} (h : Tab w) (k : SOut b N w w') (hb : TabLt b) : Tab w' := by
  have hlt := Tab.lt h
  unfold Tab Lib.TabIs World.var? at *
  cases hgl : Tryz.prog.globalNamed "internal/strconv.uint64pow10" with
  | none => rw [hgl] at h; cases h
  | some g =>
    rw [hgl] at h
    simp only [Option.bind_some] at h ⊢
    rw [k.1.block g (hlt g hgl) (fun e => by injection e with e; have := hb g hgl; omega)]
    exact h

set_option maxHeartbeats 4000000 in
theorem pathString_any (b : Nat) (N : Int) (w : World) (hs : Strm w b N) (hN : N ≤ 900000) (hT : Tab w) (hb : TabLt b) :
    Calls Tryz.prog 13 #[.pointer (some ⟨b, 0, none⟩)] w fun e w' => ∃ t : ByteArray, e = .returned (.string t) ∧ t.size ≤ 3000 ∧ SOut b (N + 7000) w w' := by
  have hR := rightPaths_any b N 3 w hs (by omega) (by omega)
  go_enter Tryz.func13, Tryz.ntmps13
  go_wp2_with fail
  refine hR.mono ?_
  rintro e w1 ⟨l, A1, c1, rfl, hl, hlF, hl3, hl4, ho1⟩
  clear hR
  have htx := text_small hlF (by omega) hl4
  have hP := pathLines_any A1 c1 l w1 (hl.mono (Nat.zero_le _)) hlF (by omega) (Tab.s hT ho1 hb)
  obtain ⟨T, hTe⟩ : ∃ T, mkB (pathText l) = T := ⟨_, rfl⟩
  rw [hTe] at hP
  have hTs : T.size ≤ 2000 := by rw [← hTe]; exact htx
  clear hTe htx hlF
  go_wp2_with fail
  refine hP.mono ?_
  rintro e w2 ⟨rfl, hg2⟩
  clear hP
  have ho2 := ho1.pure hg2
  go_wp2_with fail
  refine (pick_any b (N + 6000) _ _ _ [0, 0, 1, 2] _ (ho2.2.pure (gr_alloc (World.grownBy.refl _ _) _)) (by omega) (sl_intsAt _ _ _ _ _ (by first | rfl | simp) (by have := ho2.lt; omega) (by simp [maxLen])) rfl (by simp)).mono ?_
  rintro e w3 ⟨r, rfl, hr, ho3⟩
  obtain ⟨m, rfl, hm⟩ : ∃ m : Nat, r = m ∧ m ≤ 2 := by
    simp only [List.mem_cons, List.not_mem_nil, or_false] at hr
    exact ⟨r.toNat, by omega, by omega⟩
  clear hr
  have ho4 := (ho2.al _).trans ho3
  clear ho3
  go_wp2_with fail
  go_loopw [3, 10] (fun o i wr => ∃ (k : Nat) (t : ByteArray), k ≤ m ∧ i = .int .i64 k ∧ o = .string t ∧ t.size ≤ 2000 + 104 * k ∧ SOut b (N + 6001 + 3 * k) w wr) (fun _ i _ => m - (intOf i).toNat)
  case atStart => exact ⟨0, T, Nat.zero_le _, rfl, rfl, by omega, ho4.mono (by omega)⟩
  case round =>
    obtain ⟨k, t, hk, rfl, rfl, ht, ho⟩ := hrel
    by_cases hlt : k < m
    · have hC := changed_any b (N + 6001 + 3 * k) t ⟨#[32, 10, 48, 49, 111, 99, 45]⟩ wr ho.2 (by omega) (by omega) (by decide)
      go_wp2_with fail
      refine hC.mono ?_
      rintro e w5 ⟨t2, rfl, ht2, ho5⟩
      clear hC
      have ho6 := ho.trans ho5
      go_wp2_with fail
      (go_roundw; (case rel => exact ⟨k + 1, t2, by omega, by go_num, rfl, by omega, ho6.mono (by omega)⟩); (case measure => simp [intOf]; omega))
    · go_wp2_with fail
      go_ret
      exact ⟨t, rfl, by omega, ho.mono (by omega)⟩

end Go.Proofs.YtmgcohfeijcgdaaGreatDoor

/- Contracts of functions that this seat's laws reach, each: what one call returns and what it leaves in memory; no condition beyond each theorem's own hypotheses. -/
import Derived.Test.YtejmbaiioblfeaaGreatDoorZqHulX
import Derived.Test.YtejmbaiioblfeaaGreatDoorZqRegRev
import Derived.Test.YtejmbaiioblfeaaGreatDoorSortPt
import Derived.Test.YtejmbaiioblfeaaGreatDoorSortRing
import Derived.Shelf.SlSortCmp.Whole1
import Derived.Test.YtejmbaiioblfeaaGreatDoorZqRegB
set_option linter.unusedVariables false
set_option linter.unusedSimpArgs false
namespace Go.Bl
open Go

theorem Own.takeH {α : Type} [Enc α] {w : World} {lo : Nat} {e : TypeId} {A : Option Addr} {c : Nat} {l : List α} (h : Own w lo e A c l) (k : Nat) (hk : k ≤ l.length) : Own w lo e A c (l.take k) := by
  obtain ⟨hm, cs, hr, ho⟩ := h
  have hl : (l.take k).length = k := by rw [List.length_take]; omega
  have hrl := (hr.take k).len
  rw [hl] at hrl
  refine ⟨by omega, cs.take (k * Enc.sz α), hr.take k, by rw [hl]; exact hrl, ?_⟩
  rw [hl]
  rcases ho.2 with ⟨h1, h2⟩ | ⟨g, cap, cur, hv, hb, hh, hn, hc, hs, ht⟩
  · injection h1 with a b d
    exact .inl ⟨by rw [a, d, show k = 0 by omega], by omega⟩
  · injection hv with a b d
    refine .inr ⟨g, cap, cur, by rw [a, d], hb, hh, by omega, hc, hs, ?_⟩
    rw [← ht, List.take_take]
    congr 1
    exact (Nat.min_eq_left (Nat.mul_le_mul_right _ hk)).symm

theorem Sl.dropH {α : Type} [Enc α] {w : World} {lo : Nat} {g o : Nat} {l : List α} (h : Sl w lo (some ⟨g, o, none⟩) l) (k : Nat) : Sl w lo (some ⟨g, o + k * Enc.sz α, none⟩) (l.drop k) := by
  obtain ⟨hm, cs, hr, hl⟩ := h
  refine ⟨by rw [List.length_drop]; omega, _, hr.drop k, fun hne => ?_⟩
  obtain ⟨ad, e, hb, hc⟩ := hl (by rintro rfl; simp at hne)
  injection e with e
  subst e
  refine ⟨_, rfl, hb, fun j u hu => ?_⟩
  rw [List.getElem?_drop] at hu
  have := hc _ u hu
  rw [Addr.add_lit] at this ⊢
  rwa [Nat.add_assoc]

end Go.Bl
namespace Go.Proofs.YtejmbaiioblfeaaGreatDoor
open Go Go.RowKit Go.Bl Go.Sort Go.Lib

set_option maxRecDepth 100000 in
theorem insNilRg (w : World) (f : Value) : Calls Tryz.prog 96 #[.slice none 0 0, .int .i64 0, .int .i64 0, f] w fun e w' => e = .returned (.tuple #[]) ∧ w = w' := by
  go_enter Tryz.func96, Tryz.ntmps96
  go_wp2_with fail
  refine wp_loop_once ?_
  go_wp2_with fail
  go_end0
  exact ⟨rfl, rfl⟩

set_option maxRecDepth 100000 in
theorem pdqNilRg (w : World) (f : Value) : Calls Tryz.prog 75 #[.slice none 0 0, .int .i64 0, .int .i64 0, .int .i64 0, f] w fun e w' => e = .returned (.tuple #[]) ∧ w = w' := by
  go_enter Tryz.func75, Tryz.ntmps75
  go_wp2_with fail
  refine wp_loop_once ?_
  go_wp2_with (go_at_call 96; refine (insNilRg _ _).mono ?_; rintro e w' ⟨rfl, rfl⟩)
  first
    | (go_ret; exact ⟨rfl, rfl⟩)
    | exact bodyPost_ret (v := .tuple #[]) rfl rfl ⟨rfl, rfl⟩
    | exact bodyPost_ret (v := .tuple #[]) (by simp [results, Tryz.results75]) rfl ⟨rfl, rfl⟩

set_option maxRecDepth 100000 in
theorem sortNilRg (w : World) (f : Value) : Calls Tryz.prog 37 #[.slice none 0 0, f] w fun e w' => e = .returned (.tuple #[]) ∧ w = w' := by
  go_enter Tryz.func37, Tryz.ntmps37
  go_wp2_with fail
  refine (lenBitsS_any _).mono ?_
  rintro e w' ⟨rfl, rfl⟩
  go_wp2_with fail
  refine (pdqNilRg _ _).mono ?_
  rintro e w' ⟨rfl, rfl⟩
  go_wp2_with fail
  go_end0
  exact ⟨rfl, rfl⟩

end Go.Proofs.YtejmbaiioblfeaaGreatDoor

namespace Go.Proofs.YtejmbaiioblfeaaGreatDoor
open Go Go.RowKit Go.Bl

end Go.Proofs.YtejmbaiioblfeaaGreatDoor

namespace Go.Proofs.YtejmbaiioblfeaaGreatDoor
open Go Go.RowKit Go.Bl

def lenV : Value → Nat
  | .slice _ n _ => n
  | _ => 0

end Go.Proofs.YtejmbaiioblfeaaGreatDoor

/- Contracts of functions that this seat's laws reach, each: what one call returns and what it leaves in memory; no condition beyond each theorem's own hypotheses. -/
import Derived.Test.YtgcfaamgilbjdaaGreatDoorZqSortK
import Derived.Test.YtgcfaamgilbjdaaGreatDoorSortSide
import Derived.Test.YtgcfaamgilbjdaaGreatDoorShelf
set_option linter.unusedVariables false
set_option linter.unusedSimpArgs false
namespace Go.Proofs.YtgcfaamgilbjdaaGreatDoor
open Go Go.RowKit Go.Bl Go.Sort Go.Lib

def lowX (s : Sid) : Int := min s.a.x s.b.x

def cmpSd (x y : Sid) : Int := compareInt (lowX x) (lowX y)

theorem ltSd (x y : Sid) : ltOf cmpSd x y = decide (lowX x < lowX y) := by
  unfold ltOf cmpSd compareInt
  by_cases h1 : lowX x < lowX y
  · simp [h1]
  · by_cases h2 : lowX y < lowX x <;> simp [h1, h2]

theorem swoSd : SWO (ltOf cmpSd) where
  irrefl x := by rw [ltSd]; simp
  trans x y z h1 h2 := by rw [ltSd] at *; simp at *; omega
  ntrans x y z h1 h2 := by rw [ltSd] at *; simp at *; omega

theorem isAgg_side (w : World) : (isAgg 117).run Tryz.prog w = .ok true w := Tryz.isAgg117 w

theorem sizeOf_side (w : World) : (Go.sizeOf 117).run Tryz.prog w = .ok 5 w := Tryz.sizeOf117 w

set_option maxHeartbeats 1000000 in
theorem cmpSide_any (x y : Sid) (W : World) : Calls Tryz.prog 56 #[.agg #[.int .i64 x.ring, .int .i64 x.a.x, .int .i64 x.a.y, .int .i64 x.b.x, .int .i64 x.b.y], .agg #[.int .i64 y.ring, .int .i64 y.a.x, .int .i64 y.a.y, .int .i64 y.b.x, .int .i64 y.b.y]] W fun e w' => e = .returned (.int .i64 (cmpSd x y)) ∧ ∃ q os', w' = grow (W.drewN q) os' := by
  have hcon := hide fun W' => Tryz.cmp_Compare_int (min x.a.x x.b.x) (min y.a.x y.b.x) W'
  have hV : Hid (cmpSd x y = compareInt (min x.a.x x.b.x) (min y.a.x y.b.x)) := rfl
  rw [← hV.out] at hcon
  generalize cmpSd x y = r at hcon hV ⊢
  generalize hm1 : min x.a.x x.b.x = m1 at *
  generalize hm2 : min y.a.x y.b.x = m2 at *
  go_enter Tryz.func56, Tryz.ntmps56
  go_wp2_with fail
  refine (hcon.out _).mono ?_
  rintro e w' ⟨rfl, rfl⟩
  go_wp2_with fail
  go_ret
  exact ⟨rfl, 0, _, by rw [alloc_eq_grow, alloc_eq_grow, grow_grow]; rfl⟩

set_option maxHeartbeats 1000000 in
theorem sortSide_any (g c : Nat) (lo : Nat) (l : List Sid) (w : World) (ho : Own w lo 117 (some ⟨g, 0, none⟩) c l) (hl : l.length ≤ 1000000) :
    Calls Tryz.prog 55 #[.slice (some ⟨g, 0, none⟩) l.length c, .func (.func 56) #[] #[]] w fun e w' => e = .returned (.tuple #[]) ∧ ∃ l' : List Sid, l'.Perm l ∧ (∀ i j (hi : i < l'.length) (hj : j < l'.length), i < j → lowX l'[i] ≤ lowX l'[j]) ∧ Own w' lo 117 (some ⟨g, 0, none⟩) c l' ∧ w.grownBy w' (some g) := by
  have eg : ∀ args w, (callFunc 56 args).run Tryz.prog w = .ok (.enter 56 args) w := enters_of Tryz.func56 (by kernel_rfl) rfl
  have hsz : l.toArray.size < 4611686018427387904 := by
    simp only [List.size_toArray]; omega
  have hcon := AnyQ.slices_SortFunc Tryz.sortSide 5 isAgg_side sizeOf_side EncL.e (fun x => EncL.len x) (fun x v hv => EncL.one x v hv) cmpSd swoSd 56 #[] g 0 c l.toArray w eg (fun m os dk _ x y => cmpSide_any x y _) ho.holds (ho.blk_lt rfl).2 hsz
  change Calls Tryz.prog 55 _ _ _ at hcon
  refine hcon.mono ?_
  rintro e w' ⟨rfl, d', n, os, hp, hs, rfl⟩
  obtain ⟨h1, h2, h3⟩ := ho.sorted (n := n) (os := os) hp
  refine ⟨rfl, d'.toList, h1, fun i j hi hj hij => ?_, h2, h3⟩
  have hsz2 : d'.size = l.length := by simpa using (permIn_all hp).2
  have := hs i j (Nat.zero_le _) hij (by simpa [hsz2] using hj)
  rw [ltSd] at this
  simp only [Array.length_toList] at hi hj
  rw [getElem!_pos d' i hi, getElem!_pos d' j hj] at this
  simp at this
  simpa using this

theorem lenBitsS_any (w : World) : Calls Tryz.prog 68 #[.int .u64 0] w fun e w' => e = .returned (.int .i64 0) ∧ w = w' :=
  (Tryz.bits_Len 0 w (by omega) (by omega)).mono fun _ _ ⟨he, hw⟩ => ⟨he, hw.symm⟩

set_option maxRecDepth 100000 in
theorem insNilS_any (w : World) (f : Value) : Calls Tryz.prog 77 #[.slice none 0 0, .int .i64 0, .int .i64 0, f] w fun e w' => e = .returned (.tuple #[]) ∧ w = w' := by
  go_enter Tryz.func77, Tryz.ntmps77
  go_wp2_with fail
  refine wp_loop_once ?_
  go_wp2_with fail
  go_end0
  exact ⟨rfl, rfl⟩

set_option maxRecDepth 100000 in
theorem pdqNilS_any (w : World) (f : Value) : Calls Tryz.prog 67 #[.slice none 0 0, .int .i64 0, .int .i64 0, .int .i64 0, f] w fun e w' => e = .returned (.tuple #[]) ∧ w = w' := by
  go_enter Tryz.func67, Tryz.ntmps67
  go_wp2_with fail
  refine wp_loop_once ?_
  go_wp2_with (go_at_call 77; refine (insNilS_any _ _).mono ?_; rintro e w' ⟨rfl, rfl⟩)
  first
    | (go_ret; exact ⟨rfl, rfl⟩)
    | exact bodyPost_ret (v := .tuple #[]) rfl rfl ⟨rfl, rfl⟩
    | exact bodyPost_ret (v := .tuple #[]) (by simp [results, Tryz.results67]) rfl ⟨rfl, rfl⟩

set_option maxRecDepth 100000 in
theorem sortNilS_any (w : World) (f : Value) : Calls Tryz.prog 55 #[.slice none 0 0, f] w fun e w' => e = .returned (.tuple #[]) ∧ w = w' := by
  go_enter Tryz.func55, Tryz.ntmps55
  go_wp2_with fail
  refine (lenBitsS_any _).mono ?_
  rintro e w' ⟨rfl, rfl⟩
  go_wp2_with fail
  refine (pdqNilS_any _ _).mono ?_
  rintro e w' ⟨rfl, rfl⟩
  go_wp2_with fail
  go_end0
  exact ⟨rfl, rfl⟩

theorem Own.cases {α : Type} [Enc α] {w : World} {lo : Nat} {e : TypeId} {A : Option Addr} {c : Nat} {l : List α} (h : Own w lo e A c l) : (A = none ∧ c = 0 ∧ l = []) ∨ ∃ g, A = some ⟨g, 0, none⟩ := by
  obtain ⟨_, cs, _, ho⟩ := h
  rcases ho.2 with ⟨h1, h2⟩ | ⟨g, cap, cur, hv, _⟩
  · injection h1 with h1 h3 h4
    exact .inl ⟨h1, h4, List.eq_nil_of_length_eq_zero h2⟩
  · injection hv with hv
    exact .inr ⟨g, hv⟩

theorem sortS_any (A : Option Addr) (c : Nat) (lo : Nat) (l : List Sid) (w : World) (ho : Own w lo 117 A c l) (hl : l.length ≤ 1000000) :
    Calls Tryz.prog 55 #[.slice A l.length c, .func (.func 56) #[] #[]] w fun e w' => e = .returned (.tuple #[]) ∧ ∃ l' : List Sid, l'.Perm l ∧ (∀ i j (hi : i < l'.length) (hj : j < l'.length), i < j → lowX l'[i] ≤ lowX l'[j]) ∧ Own w' lo 117 A c l' ∧ w.grownBy w' (blk A) := by
  rcases Own.cases ho with ⟨rfl, rfl, rfl⟩ | ⟨g, rfl⟩
  · refine (sortNilS_any w _).mono ?_
    rintro e w' ⟨rfl, rfl⟩
    exact ⟨rfl, [], List.Perm.refl _, fun i j hi => by simp at hi, ho, World.grownBy.refl _ _⟩
  · exact sortSide_any g c lo l w ho hl

end Go.Proofs.YtgcfaamgilbjdaaGreatDoor

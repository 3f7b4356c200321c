/- Contracts of functions that this seat's laws reach, each: what one call returns and what it leaves in memory; no condition beyond each theorem's own hypotheses. -/
import Derived.Test.YtfleljmmfkkkpaaGreatDoorZqTextData
import Derived.Test.YtfleljmmfkkkpaaGreatDoorZqFlowA
import Derived.Test.YtfleljmmfkkkpaaGreatDoorZqJm
import Derived.Test.YtfleljmmfkkkpaaGreatDoorShelf
import Derived.Shelf.Strings.BuilderK
import Derived.Lib.LaidTab
set_option linter.unusedVariables false
set_option linter.unusedSimpArgs false
namespace Go.Proofs.YtfleljmmfkkkpaaGreatDoor
open Go Go.RowKit Go.Bl

/-- block b holds a builder of bytes, whose own blocks are from B on -/
def Bld (w : World) (B b : Nat) (l : List UInt8) : Prop := Lib.IsBuilderF 49 5 B b (Lib.byteCells l) w

theorem Bld.gr {w w' : World} {B b : Nat} {l : List UInt8} (h : Bld w B b l) (hg : w.grownBy w' none) : Bld w' B b l := by
  have go : ∀ {p : Value}, Lib.BuilderAtF 49 5 B b p (Lib.byteCells l) w → Lib.BuilderAtF 49 5 B b p (Lib.byteCells l) w' := by
    intro p h
    have hlt := h.lt
    obtain ⟨hB, v, hb, hown, hne⟩ := h
    exact ⟨hB, v, (hg.block b hlt (by simp)).trans hb, hown.kept hg (by cases v.ownBlock <;> simp), hne⟩
  exact h.elim (fun h => .inl (go h)) (fun h => .inr (go h))

theorem Bld.new (w : World) (B : Nat) (hB : B ≤ w.heap.size) : Bld (w.alloc (.cells #[.pointer none, .slice none 0 0] 49)) B w.heap.size [] :=
  .inl ⟨hB, .slice none 0 0, heap_alloc_new w _, ⟨rfl, .inl ⟨rfl, rfl⟩⟩, by simp [Value.ownBlock]⟩

theorem Bld.lt {w : World} {B b : Nat} {l : List UInt8} (h : Bld w B b l) : b < w.heap.size := h.elim (fun h => h.lt) (fun h => h.lt)

theorem bld_info : (Tryz.prog.info? 49).map (·.size) = some 2 := by kernel_rfl

theorem bld_lies : liesAt Tryz.prog Tryz.prog.depth 49 (2 / Tryz.prog.cellsOf 49) 0 49 1 = true := by kernel_rfl

theorem byte_info : (Tryz.prog.info? 5).map (fun i => (i.zero, i.size, i.bytes)) = some (some (.int .u8 0), 1, 1) := by kernel_rfl

set_option maxHeartbeats 1000000 in
set_option maxRecDepth 100000 in
theorem copyCheck_any (B b : Nat) (l : List UInt8) (w : World) (h : Bld w B b l) :
    Calls Tryz.prog 43 #[.pointer (some ⟨b, 0, none⟩)] w fun e w' => e = .returned (.tuple #[]) ∧ Lib.BuilderAtF 49 5 B b (.pointer (some ⟨b, 0, none⟩)) (Lib.byteCells l) w' ∧ Below B w w' ∧ Lib.OthersKept 5 (some b) w w' := by
  obtain ⟨j, hj, hjs⟩ := Option.map_eq_some_iff.1 bld_info
  rcases h with h | h
  · have h0 := h.cell0
    have hsh := h.shape
    have hfz := h.frozen0
    have hu := h.used (.pointer (some ⟨b, 0, none⟩))
    have hB := h.1
    replace hu := hide hu
    clear h
    go_enter Tryz.func43, Tryz.ntmps43
    go_wp2
    rw [Lib.run_to_unsafe w ⟨b, 0, none⟩ Tryz.underlying46 Tryz.underlying112 hj (by rw [hjs]; decide) hsh (Nat.zero_lt_succ 1)]
    simp only [Result.andThen]
    rw [Oper.upon_value]
    go_wp2
    rw [run_callFunc_extern Tryz.func67 (by kernel_rfl) (by kernel_rfl) (by kernel_rfl) (e := Extern.AbiNoEscape.same) (by kernel_rfl)]
    rw [Lib.run_noEscape]
    simp only [Result.andThen]
    rw [Oper.upon_value]
    go_wp2
    rw [Lib.run_from_unsafe w ⟨b, 0, none⟩ Tryz.underlying112 Tryz.underlying46 hj hsh bld_lies]
    simp only [Result.andThen]
    rw [Oper.upon_value]
    go_wp2
    go_end0
    exact ⟨rfl, hu.out, (Below.refl B w).setCell (p := ⟨b, 0, none⟩) hB _, (Lib.OthersKept.refl _ _ w).setCell ⟨b, 0, none⟩ rfl _⟩
  · have h0 := h.cell0
    replace h := hide h
    go_enter Tryz.func43, Tryz.ntmps43
    go_wp2
    rw [Lib.run_neq_ptr_same w _ Tryz.underlying46 hj]
    go_wp2
    go_end0
    exact ⟨rfl, h.out, Below.refl B _, Lib.OthersKept.refl _ _ _⟩

theorem strCells_bytes (s : ByteArray) : Lib.strCells s = Lib.byteCells s.data.toList := rfl

theorem byteCells_append (a b : List UInt8) : Lib.byteCells (a ++ b) = Lib.byteCells a ++ Lib.byteCells b := by simp [Lib.byteCells]

theorem byteCells_len (a : List UInt8) : (Lib.byteCells a).length = a.length := by simp [Lib.byteCells]

set_option maxHeartbeats 2000000 in
set_option maxRecDepth 100000 in
theorem writeString_any (B b : Nat) (l : List UInt8) (s : ByteArray) (w : World) (h : Bld w B b l) (hlen : l.length + s.size ≤ 140737488355328) (hBw : B ≤ w.heap.size) :
    Calls Tryz.prog 15 #[.pointer (some ⟨b, 0, none⟩), .string s] w fun e w' => e = .returned (.tuple #[.int .i64 s.size, .nilIface]) ∧ Bld w' B b (l ++ s.data.toList) ∧ Below B w w' ∧ Lib.OthersKept 5 (some b) w w' := by
  obtain ⟨i0, hi, hz0, hz1, hz2⟩ := info_parts byte_info
  have hcc := copyCheck_any B b l w h
  go_enter Tryz.func15, Tryz.ntmps15
  go_wp2_with fail
  refine hcc.mono ?_
  rintro e w1 ⟨rfl, h1, hb1, hk1⟩
  clear hcc h
  obtain ⟨hB, v, hbk, hown, hne⟩ := h1
  have c0 : w1.cell? ⟨b, 0, none⟩ = some (.pointer (some ⟨b, 0, none⟩)) := by rw [Lib.cell_of_heap hbk]; rfl
  have c1 : w1.cell? ⟨b, 1, none⟩ = some v := by rw [Lib.cell_of_heap hbk]; rfl
  rw [byteCells_len] at hown
  go_wp2_with (at_builtin; refine Lib.wpList_append_own_stringF _ rfl _ _ 47 9 rfl B 5 i0 Tryz.underlying47 Tryz.underlying9 hi hz0 hz1 hz2 _ _ _ rfl hown s rfl ?c3 ?c4 ?c5 ?_)
  case c3 => unfold maxLen; omega
  case c4 => omega
  case c5 => have := hb1.size; omega
  intro v' w2 hown' hgrow _
  have hlt : b < w1.heap.size := by
    rcases Nat.lt_or_ge b w1.heap.size with h' | h'
    · exact h'
    · simp [Array.getElem?_eq_none h'] at hbk
  have hb2 : w2.heap[b]? = some (.cells #[.pointer (some ⟨b, 0, none⟩), v] 49 (0, 0)) := by
    rw [hgrow.block b hlt (fun e => hne e.symm)]
    exact hbk
  have d0 : w2.cell? ⟨b, 0, none⟩ = some (.pointer (some ⟨b, 0, none⟩)) := by rw [Lib.cell_of_heap hb2]; rfl
  have d1 : w2.cell? ⟨b, 1, none⟩ = some v := by rw [Lib.cell_of_heap hb2]; rfl
  have f1 : w2.frozen? ⟨b, 1, none⟩ = false := Lib.frozen_of_heap hb2 1
  obtain ⟨ao, n', cap, rfl⟩ : ∃ ao n' cap, v' = .slice ao n' cap := by
    rcases hown'.2 with ⟨hv, _⟩ | ⟨g, cap, cur, fz, hv, _⟩
    · exact ⟨_, _, _, hv⟩
    · exact ⟨_, _, _, hv⟩
  go_wp2
  go_ret2
  refine ⟨rfl, .inr ?_, ?_, (hk1.grown hgrow (Lib.ownsRowF_kind hown)).setCell ⟨b, 1, none⟩ rfl _⟩
  · refine Lib.BuilderAtF.put (T := 49) (e := 5) hB hb2 (bs' := Lib.byteCells (l ++ s.data.toList)) ?_ (by decide)
    rw [byteCells_len, List.length_append, byteCells_append]
    exact hown'
  · exact (hb1.grown hgrow (by have := hb1.size; omega) (fun k hk => (hown.lt k hk).1)).setCell (p := ⟨b, 1, none⟩) hB _

theorem Box.kept {w w' : World} {g b : Nat} {t : TypeId} {vs : List Value} (h : Box w g t vs) (hk : Lib.OthersKept 5 (some b) w w') (ht : t ≠ 5) (hg : g ≠ b) : Box w' g t vs := by
  obtain ⟨⟨cs, k, ho⟩, hc⟩ := h
  have h2 := hk g _ ho (fun e => hg (by injection e)) (fun c fz e => ht (by injection e))
  refine ⟨⟨cs, k, h2⟩, fun i v hv => ?_⟩
  have e : w'.heap[g]? = w.heap[g]? := by rw [h2, ho]
  obtain ⟨c1, c2⟩ := hc i v hv
  exact ⟨(World.cell?_of_block e).trans c1, (World.frozen?_of_block e).trans c2⟩

theorem bldLen_any (B b : Nat) (l : List UInt8) (w : World) (h : Bld w B b l) :
    Calls Tryz.prog 17 #[.pointer (some ⟨b, 0, none⟩)] w fun e w' => e = .returned (.int .i64 l.length) ∧ w' = w := by
  have := Tryz.Builder_Len_f B b _ w h
  rw [byteCells_len] at this
  exact this

theorem bldString_any (B b : Nat) (l : List UInt8) (w : World) (h : Bld w B b l) (hBw : B ≤ w.heap.size) :
    Calls Tryz.prog 18 #[.pointer (some ⟨b, 0, none⟩)] w fun e w' => e = .returned (.string (mkB l)) ∧ Below B w w' :=
  (Tryz.Builder_String_any_k B b l w h hBw).mono fun e w' ⟨h1, _, h2, _⟩ => ⟨h1, h2⟩

/-- the table that the numerals of numbers are made with -/
def Tab (w : World) : Prop := Lib.TabIs Tryz.prog w "internal/strconv.uint64pow10" .u64 Lib.pow10Tab

theorem Tab.gr {w w' : World} (h : Tab w) (hg : w.grownBy w' none) : Tab w' := by
  unfold Tab Lib.TabIs World.var? at *
  cases hgl : Tryz.prog.globalNamed "internal/strconv.uint64pow10" with
  | none => rw [hgl] at h; cases h
  | some g =>
    rw [hgl] at h
    simp only [Option.bind_some] at h ⊢
    cases hb : w.heap[g]? with
    | none => rw [hb] at h; cases h
    | some o =>
      have hlt : g < w.heap.size := (Array.getElem?_eq_some_iff.1 hb).1
      rw [hg.block g hlt (by simp), hb]
      rw [hb] at h
      exact h

theorem itoa_any (n : Int) (w : World) (h : -9223372036854775808 ≤ n ∧ n ≤ 9223372036854775807) (hT : Tab w) :
    Calls Tryz.prog 13 #[.int .i64 n] w fun e w' => e = .returned (.string (mkB (Lib.itoa n))) ∧ w.grownBy w' none :=
  (Tryz.strconv_Itoa n h.1 h.2 w hT).mono fun e w' ⟨h1, k, os, h2⟩ => ⟨h1, by subst h2; exact World.grownBy.t (gr_drewN (World.grownBy.refl _ _) k) ⟨rfl, rfl, rfl, by simp [Go.Sort.grow], fun i hi _ => Go.Sort.heap_grow_old _ _ hi⟩⟩

end Go.Proofs.YtfleljmmfkkkpaaGreatDoor

namespace Go.Proofs.YtfleljmmfkkkpaaGreatDoor
open Go Go.RowKit Go.Bl

/-- the table lies below a block -/
def TabLt (b : Nat) : Prop := ∀ g, Tryz.prog.globalNamed "internal/strconv.uint64pow10" = some g → g < b

theorem Tab.lt {w : World} (h : Tab w) : TabLt w.heap.size := by
  intro g hg
  unfold Tab Lib.TabIs World.var? at h
  rw [hg] at h
  simp only [Option.bind_some] at h
  cases hb : w.heap[g]? with
  | none => rw [hb] at h; cases h
  | some o => exact (Array.getElem?_eq_some_iff.1 hb).1

theorem Tab.s {w w' : World} {b : Nat} {N : Int} (h : Tab w) (k : SOut b N w w') (hb : TabLt b) : Tab w' := by
  have hlt := Tab.lt h
  unfold Tab Lib.TabIs World.var? at *
  cases hgl : Tryz.prog.globalNamed "internal/strconv.uint64pow10" with
  | none => rw [hgl] at h; cases h
  | some g =>
    rw [hgl] at h
    simp only [Option.bind_some] at h ⊢
    rw [k.1.block g (hlt g hgl) (fun e => by injection e with e; have := hb g hgl; omega)]
    exact h

end Go.Proofs.YtfleljmmfkkkpaaGreatDoor

/- Rows that hold slices: what an append leaves of the other blocks, said by the block it wrote. -/
import Derived.Test.YtlfobddinilmcaaDoorLib
import Derived.Maps.AppendAt
set_option linter.unusedVariables false
set_option linter.unusedSimpArgs false
namespace Go.Bl
open Go

def blk (A : Option Addr) : Option Nat := A.map (·.block)
theorem ownBlock_slice (A : Option Addr) (n c : Nat) : (Value.slice A n c).ownBlock = blk A := by cases A <;> rfl

/-- a flat row stands where its own block is not written -/
theorem Sl.ne {α : Type} [Enc α] [Flat α] {w w' : World} {lo : Nat} {A : Option Addr} {l : List α} {r : Option Nat} (h : Sl w lo A l) (hg : w.grownBy w' r) (hne : ∀ g, blk A = some g → r ≠ some g) : Sl w' lo A l := by
  obtain ⟨hm, cs, hr, hl⟩ := h
  refine ⟨hm, cs, hr.flat, fun hc => ?_⟩
  obtain ⟨ad, e, hb, hcs⟩ := hl hc
  subst e
  exact ⟨ad, rfl, hb, fun j u hu => gr_cell hg (hcs j u hu) (by rw [block_of_add]; exact hne _ rfl)⟩

theorem gr_froz {w w1 : World} {r : Option Nat} (h : w.grownBy w1 r) {p : Addr} {v : Value} (hc : w.cell? p = some v) (hne : r ≠ some p.block) (hf : w.frozen? p = false) : w1.frozen? p = false :=
  (World.frozen?_of_block (h.block _ (World.block_lt_of_cell? w p hc) (fun e => hne e.symm))).trans hf

/-- what an append to A leaves: only A's block is written, and what comes of it lies there or is new -/
def Grew (A A' : Option Addr) (w w' : World) : Prop := w.grownBy w' (blk A) ∧ (blk A' = blk A ∨ blk A' = some w.heap.size)

section
variable {P : Program} {α : Type} [Enc α] [Flat α]
theorem run_pushAt (w : World) (lo : Nat) (t ty e : TypeId) (i : TypeInfo) (z : Value) (bytes : Nat) (ht : P.underlying t = some (.slice e)) (hi : P.info? e = some i) (hz : i.zero = some z)
    (hsize : i.size = Enc.sz α) (hby : i.bytes = bytes) (hzs : z.cells.size = Enc.sz α)
    (A : Option Addr) (c : Nat) (l : List α) (hown : Own w lo e A c l) (lo2 : Nat) (ad : Addr) (cc : Nat) (l2 : List α) (hsl : Sl w lo2 (some ad) l2)
    (hbytes : (l.length + l2.length) * bytes ≤ 140737488355328) (h63 : l.length + l2.length ≤ maxLen) (hbase : lo ≤ w.heap.size) :
    ∃ A' c' w', (Builtin.append_ #[t, t] ty #[.slice A l.length c, .slice (some ad) l2.length cc]).run P w = .ok (.slice A' (l ++ l2).length c') w' ∧ Own w' lo e A' c' (l ++ l2) ∧ Grew A A' w w' := by
  obtain ⟨hm, cs, hr, ho⟩ := hown
  obtain ⟨hm2, cs2, hr2, hl2⟩ := hsl
  have hlen2 : cs2.length = l2.length * Enc.sz α := hr2.len
  have hnews : ∀ j u, cs2[j]? = some u → w.cell? (ad.add j) = some u := fun j u hu => by
    obtain ⟨ad', h1, _, h3⟩ := hl2 (by rintro rfl; simp at hu)
    injection h1 with h1
    subst h1
    exact h3 j u hu
  obtain ⟨v', w', hrun, ho', hg, _, hb⟩ := run_append_own_at (P := P) w lo t ty e i z (Enc.sz α) bytes ht hi hz hsize hby hzs Flat.pos _ _ cs ho ad l2.length cc cs2 hlen2 hnews hr2.one h63 hbytes hbase
  rw [ownBlock_slice] at hg hb
  have hlen : (l ++ l2).length = l.length + l2.length := List.length_append
  rcases ho'.2 with ⟨rfl, h0⟩ | ⟨g, cap, cur, rfl, rest⟩
  · refine ⟨none, 0, w', ?_, ⟨by omega, cs ++ cs2, (hr.flat).append (hr2.flat), ?_⟩, hg, hb⟩
    · rw [hrun, hlen, h0]
    · rw [hlen, h0] at *
      exact ho'
  · refine ⟨some ⟨g, 0, none⟩, cap, w', ?_, ⟨by omega, cs ++ cs2, (hr.flat).append (hr2.flat), ?_⟩, hg, hb⟩
    · rw [hrun, hlen]
    · rw [hlen]
      exact ho'

theorem wp_pushAt {o : Oper} {a : Act} {K : Act → World → Prop} {Q : Exit → Act → World → Prop} (w : World) (s x : Operand) (t : TypeId)
    (ho : o.op = .call { callee := .builtin .append, args := #[s, x], argTypes := #[t, t] })
    (lo : Nat) (e : TypeId) (i : TypeInfo) (z : Value) (bytes : Nat) (ht : P.underlying t = some (.slice e)) (hi : P.info? e = some i) (hz : i.zero = some z)
    (hsize : i.size = Enc.sz α) (hby : i.bytes = bytes) (hzs : z.cells.size = Enc.sz α)
    (A : Option Addr) (n c : Nat) (l : List α) (hs : a.eval s = .slice A n c) (hn : n = l.length) (hown : Own w lo e A c l)
    (lo2 : Nat) (ad : Addr) (m cc : Nat) (l2 : List α) (hx : a.eval x = .slice (some ad) m cc) (hm : m = l2.length) (hsl : Sl w lo2 (some ad) l2)
    (hbytes : (l.length + l2.length) * bytes ≤ 140737488355328) (h63 : l.length + l2.length ≤ maxLen) (hbase : lo ≤ w.heap.size)
    (h : ∀ A' c' w', Own w' lo e A' c' (l ++ l2) → Grew A A' w w' → K (a.put o.dst (.slice A' (l ++ l2).length c')) w') : o.wp P a w K Q := by
  subst hn
  subst hm
  obtain ⟨A', c', w', hrun, h2, h3⟩ := run_pushAt (P := P) w lo t o.type e i z bytes ht hi hz hsize hby hzs A c l hown lo2 ad cc l2 hsl hbytes h63 hbase
  unfold Oper.wp execOp
  simp only [ho, resolve, invoke, builtin, Sem.run_bind, Sem.run_pure, Result.andThen_ok, List.map_toArray, List.map_cons, List.map_nil, hs, hx, hrun]
  exact h A' c' w' h2 h3

theorem wpList_pushAt {ops : Array Oper} {rest : List Oper} {o : Oper} {a : Act} {Q : Exit → Act → World → Prop} (w : World) (hgd : o.guard = none) (s x : Operand) (t : TypeId)
    (ho : o.op = .call { callee := .builtin .append, args := #[s, x], argTypes := #[t, t] })
    (lo : Nat) (e : TypeId) (i : TypeInfo) (z : Value) (bytes : Nat) (ht : P.underlying t = some (.slice e)) (hi : P.info? e = some i) (hz : i.zero = some z)
    (hsize : i.size = Enc.sz α) (hby : i.bytes = bytes) (hzs : z.cells.size = Enc.sz α)
    (A : Option Addr) (n c : Nat) (l : List α) (hs : a.eval s = .slice A n c) (hn : n = l.length) (hown : Own w lo e A c l)
    (lo2 : Nat) (ad : Addr) (m cc : Nat) (l2 : List α) (hx : a.eval x = .slice (some ad) m cc) (hm : m = l2.length) (hsl : Sl w lo2 (some ad) l2)
    (hbytes : (l.length + l2.length) * bytes ≤ 140737488355328) (h63 : l.length + l2.length ≤ maxLen) (hbase : lo ≤ w.heap.size)
    (h : ∀ A' c' w', Own w' lo e A' c' (l ++ l2) → Grew A A' w w' → wpList P ops Q rest (a.put o.dst (.slice A' (l ++ l2).length c')) w') : wpList P ops Q (o :: rest) a w :=
  wpList_plain hgd fun _ hK => wp_pushAt w s x t ho lo e i z bytes ht hi hz hsize hby hzs A n c l hs hn hown lo2 ad m cc l2 hx hm hsl hbytes h63 hbase fun A' c' w' h2 h3 => hK _ _ (h A' c' w' h2 h3)
end

theorem Own.blk_lt {α : Type} [Enc α] {w : World} {lo : Nat} {e : TypeId} {A : Option Addr} {c : Nat} {l : List α} (h : Own w lo e A c l) {g : Nat} (hg : blk A = some g) : lo ≤ g ∧ g < w.heap.size := by
  obtain ⟨_, cs, _, ho⟩ := h
  exact ho.lt g (by rw [ownBlock_slice]; exact hg)
/-- a row of one's own stands where another block is written -/
theorem Own.ne {α : Type} [Enc α] [Flat α] {w w' : World} {lo : Nat} {e : TypeId} {A : Option Addr} {c : Nat} {l : List α} {r : Option Nat} (h : Own w lo e A c l) (hg : w.grownBy w' r) (hne : ∀ g, blk A = some g → r ≠ some g) : Own w' lo e A c l := by
  obtain ⟨hm, cs, hr, ho⟩ := h
  refine ⟨hm, cs, hr.flat, ho.kept hg ?_⟩
  rw [ownBlock_slice]
  rcases hb : blk A with _ | g
  · exact .inl rfl
  · exact .inr (fun e => hne g hb e.symm)
theorem Grew.upd {A A' : Option Addr} {w w' : World} {α : Type} [Enc α] {lo : Nat} {e : TypeId} {c : Nat} {l : List α} (h : Grew A A' w w') (ho : Own w lo e A c l) : Upd lo w w' := ⟨_, h.1, fun _ hg => (ho.blk_lt hg).1⟩
end Go.Bl

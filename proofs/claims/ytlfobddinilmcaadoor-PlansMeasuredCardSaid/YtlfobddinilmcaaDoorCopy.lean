/- copy and make over slices of structs. -/
import Derived.Test.YtlfobddinilmcaaDoorLib
import Derived.Laws.CopyRow
import Derived.Laws.MakeOwn
set_option linter.unusedVariables false
set_option linter.unusedSimpArgs false
namespace Go.Bl
open Go Go.RowKit

theorem made_succ (z : Array Value) (hz : 0 < z.size) (n : Nat) : (madeCells z ((n + 1) * z.size)).toList = z.toList ++ (madeCells z (n * z.size)).toList := by
  apply List.ext_getElem?
  intro j
  by_cases hj : j < z.size
  · have h1 : j < (n + 1) * z.size := by rw [Nat.add_mul]; omega
    rw [List.getElem?_append_left (by simpa using hj)]
    simp [madeCells, h1, Nat.mod_eq_of_lt hj, hj]
  · rw [List.getElem?_append_right (by simpa using hj)]
    by_cases h2 : j < (n + 1) * z.size
    · have h3 : j - z.size < n * z.size := by rw [Nat.add_mul] at h2; omega
      have h4 : (j - z.size) % z.size = j % z.size := by
        rw [← Nat.mod_eq_sub_mod (by omega)]
      simp [madeCells, h2, h3, h4]
    · have h3 : ¬ j - z.size < n * z.size := by rw [Nat.add_mul] at h2; omega
      simp [madeCells, h2, h3]

theorem row_made {α : Type} [Enc α] [Flat α] (w : World) (lo : Nat) (x : α) (z : Array Value) (hz : z.size = Enc.sz α) (hx : Enc.rep w lo x z.toList) : ∀ n, Row w lo (List.replicate n x) (madeCells z (n * Enc.sz α)).toList
  | 0 => by simp [madeCells]; rfl
  | n + 1 => by
    rw [← hz, made_succ z (by rw [hz]; exact Flat.pos) n, List.replicate_succ, hz]
    exact ⟨_, _, rfl, hx, row_made w lo x z hz hx n⟩

section
variable {P : Program} {α : Type} [Enc α] [Flat α]
theorem run_makeOwn (w : World) (t e : TypeId) (i : TypeInfo) (z : Value) (x : α) (ht : P.underlying t = some (.slice e)) (hi : P.info? e = some i) (hz : i.zero = some z) (hsize : i.size = Enc.sz α) (hzs : z.cells.size = Enc.sz α)
    (hx : Enc.rep w w.heap.size x z.cells.toList) (kl kc : IntKind) (n : Nat) (hbytes : i.bytes * n ≤ 281474976710656) (h63 : n ≤ maxLen) :
    ∃ w', (Instr.makeSlice t (.int kl (n : Int)) (.int kc (n : Int))).run P w = .ok (.slice (some ⟨w.heap.size, 0, none⟩) n n) w' ∧ Own w' w.heap.size e (some ⟨w.heap.size, 0, none⟩) n (List.replicate n x) ∧ w.grownBy w' none := by
  obtain ⟨w', hr, ho, hg⟩ := run_make_full (P := P) w w.heap.size t e i z (Enc.sz α) ht hi hz hsize kl kc n hbytes h63 (Nat.le_refl _)
  refine ⟨w', hr, ⟨by simpa using h63, _, (row_made w w.heap.size x z.cells hzs hx n).flat, ?_⟩, hg⟩
  rw [List.length_replicate]
  exact ho

theorem run_copyOwn (w : World) (lo : Nat) (dT sT ty e : TypeId) (i : TypeInfo) (hu : P.underlying dT = some (.slice e)) (hi : P.info? e = some i) (hsize : i.size = Enc.sz α)
    (g c : Nat) (l : List α) (hown : Own w lo e (some ⟨g, 0, none⟩) c l) (k dl dc : Nat) (hk : k + dl = l.length) (hl0 : 0 < l.length) (lo2 : Nat) (ad : Addr) (sl sc : Nat) (l2 : List α) (hsl : Sl w lo2 (some ad) l2) (hl2 : l2.length = sl) :
    ∃ w', (Builtin.copy_ #[dT, sT] ty #[.slice (some ⟨g, k * Enc.sz α, none⟩) dl dc, .slice (some ad) sl sc]).run P w = .ok (.int .i64 (min sl dl : Nat)) w' ∧
      Own w' lo e (some ⟨g, 0, none⟩) c (l.take k ++ l2.take (min sl dl) ++ l.drop (k + min sl dl)) ∧ w.grownBy w' (some g) := by
  subst hl2
  obtain ⟨hm, cs, hr, ho⟩ := hown
  obtain ⟨hm2, cs2, hr2, hl2⟩ := hsl
  generalize hmn : min l2.length dl = m
  have hml : m ≤ l2.length := by omega
  have hmd : k + m ≤ l.length := by omega
  have hlen : cs.length = l.length * Enc.sz α := hr.len
  have hlen2 : cs2.length = l2.length * Enc.sz α := hr2.len
  have hmul : m * Enc.sz α ≤ cs2.length := by rw [hlen2]; exact Nat.mul_le_mul_right _ hml
  have hmul2 : k * Enc.sz α + m * Enc.sz α ≤ cs.length := by rw [hlen, ← Nat.add_mul]; exact Nat.mul_le_mul_right _ hmd
  have hnl : (cs2.take (m * Enc.sz α)).length = m * Enc.sz α := by rw [List.length_take]; omega
  have hsrc : ∀ j v, (cs2.take (m * Enc.sz α))[j]? = some v → w.cell? (ad.add j) = some v := fun j v hv => by
    rw [List.getElem?_take] at hv
    split at hv
    · obtain ⟨ad', h1, _, h3⟩ := hl2 (by rintro rfl; simp at hv)
      injection h1 with h1
      subst h1
      exact h3 j v hv
    · cases hv
  have h1 : ∀ v ∈ cs2.take (m * Enc.sz α), v.oneCell' = true := fun v hv => hr2.one v (List.mem_of_mem_take hv)
  rcases ho.2 with ⟨hv, _⟩ | ⟨g', cap, cur, hv, hbg, hg, hnc, hcm, hcs, htake⟩
  · simp at hv
  simp only [Value.slice.injEq, Option.some.injEq, Addr.mk.injEq, and_true, true_and] at hv
  obtain ⟨rfl, rfl⟩ := hv
  have hcsz : cs.length ≤ cur.size := by rw [hcs, hlen]; exact Nat.mul_le_mul_right _ hnc
  have hl := run_loadCells_list (P := P) w ad (cs2.take (m * Enc.sz α)) hsrc
  have hst := run_storeCells_at P g (k * Enc.sz α) e (cs2.take (m * Enc.sz α)) 0 cur w hg (by rw [hnl]; omega) h1
  rw [hnl] at hl
  simp only [Nat.add_zero] at hst
  have hkm : (k + m) * Enc.sz α = k * Enc.sz α + m * Enc.sz α := Nat.add_mul _ _ _
  have hll : (l.take k ++ l2.take m ++ l.drop (k + m)).length = l.length := by simp; omega
  refine ⟨w.setRow g (cur.toList.take (k * Enc.sz α) ++ cs2.take (m * Enc.sz α) ++ cur.toList.drop (k * Enc.sz α + (cs2.take (m * Enc.sz α)).length)).toArray, ?_, ⟨by rw [hll]; exact hm, cs.take (k * Enc.sz α) ++ cs2.take (m * Enc.sz α) ++ cs.drop ((k + m) * Enc.sz α), (((hr.take k).append ((hr2.take m).flat)).append (hr.drop (k + m))).flat, ?_⟩, ?_⟩
  · simp [Builtin.copy_, run_underlying hu, Builtin.lenOf, Builtin.firstCells, sizeOf, typeInfo, hi, hsize, hmn, hl, hst, goInt]
  · rw [hll]
    refine ⟨?_, .inr ⟨g, c, _, rfl, hbg, setRow_heap w g cur _ e _ hg, hnc, hcm, ?_, ?_⟩⟩
    · simp only [List.length_append, List.length_take, List.length_drop, hkm]
      omega
    · simp only [List.size_toArray, List.length_append, List.length_take, List.length_drop, Array.length_toList]
      omega
    · rw [hnl, hkm]
      subst htake
      simp only [List.length_take, Array.length_toList] at hmul2 hcsz hlen ⊢
      generalize k * Enc.sz α = S at *
      generalize hM : m * Enc.sz α = M at *
      generalize l.length * Enc.sz α = n at *
      rw [List.take_take, Nat.min_eq_left (by omega), List.drop_take, List.append_assoc, List.append_assoc, List.take_append, List.take_of_length_le (by simp; omega)]
      congr 1
      rw [List.take_append, List.take_of_length_le (by simp; omega)]
      congr 2
      simp only [List.length_take, Array.length_toList]
      omega
  · exact ⟨rfl, rfl, rfl, by simp [World.setRow], fun q _ hk => setRow_other w g q _ (fun e => hk (by simp [e]))⟩

theorem wp_copyOwn {o : Oper} {a : Act} {K : Act → World → Prop} {Q : Exit → Act → World → Prop} (w : World) (d s : Operand) (dT sT : TypeId) (ho : o.op = .call { callee := .builtin .copy, args := #[d, s], argTypes := #[dT, sT] })
    (lo : Nat) (e : TypeId) (i : TypeInfo) (hu : P.underlying dT = some (.slice e)) (hi : P.info? e = some i) (hsize : i.size = Enc.sz α)
    (g off dl dc : Nat) (hd : a.eval d = .slice (some ⟨g, off, none⟩) dl dc) (c : Nat) (l : List α) (hown : Own w lo e (some ⟨g, 0, none⟩) c l) (k : Nat) (hoff : off = k * Enc.sz α) (hk : k + dl = l.length) (hl0 : 0 < l.length)
    (ad : Addr) (sl sc : Nat) (hs : a.eval s = .slice (some ad) sl sc) (lo2 : Nat) (l2 : List α) (hsl : Sl w lo2 (some ad) l2) (hl2 : l2.length = sl)
    (h : ∀ w', Own w' lo e (some ⟨g, 0, none⟩) c (l.take k ++ l2.take (min sl dl) ++ l.drop (k + min sl dl)) → w.grownBy w' (some g) → K (a.put o.dst (.int .i64 (min sl dl : Nat))) w') : o.wp P a w K Q := by
  subst hoff
  obtain ⟨w', hrun, h2, h3⟩ := run_copyOwn (P := P) w lo dT sT o.type e i hu hi hsize g c l hown k dl dc hk hl0 lo2 ad sl sc l2 hsl hl2
  unfold Oper.wp execOp
  simp only [ho, resolve, invoke, builtin, Sem.run_bind, Sem.run_pure, Result.andThen_ok, List.map_toArray, List.map_cons, List.map_nil, hd, hs, hrun]
  exact h w' h2 h3

theorem wpList_copyOwn {ops : Array Oper} {rest : List Oper} {o : Oper} {a : Act} {Q : Exit → Act → World → Prop} (w : World) (hgd : o.guard = none) (d s : Operand) (dT sT : TypeId) (ho : o.op = .call { callee := .builtin .copy, args := #[d, s], argTypes := #[dT, sT] })
    (lo : Nat) (e : TypeId) (i : TypeInfo) (hu : P.underlying dT = some (.slice e)) (hi : P.info? e = some i) (hsize : i.size = Enc.sz α)
    (g off dl dc : Nat) (hd : a.eval d = .slice (some ⟨g, off, none⟩) dl dc) (c : Nat) (l : List α) (hown : Own w lo e (some ⟨g, 0, none⟩) c l) (k : Nat) (hoff : off = k * Enc.sz α) (hk : k + dl = l.length) (hl0 : 0 < l.length)
    (ad : Addr) (sl sc : Nat) (hs : a.eval s = .slice (some ad) sl sc) (lo2 : Nat) (l2 : List α) (hsl : Sl w lo2 (some ad) l2) (hl2 : l2.length = sl)
    (h : ∀ w', Own w' lo e (some ⟨g, 0, none⟩) c (l.take k ++ l2.take (min sl dl) ++ l.drop (k + min sl dl)) → w.grownBy w' (some g) → wpList P ops Q rest (a.put o.dst (.int .i64 (min sl dl : Nat))) w') : wpList P ops Q (o :: rest) a w :=
  wpList_plain hgd fun _ hK => wp_copyOwn w d s dT sT ho lo e i hu hi hsize g off dl dc hd c l hown k hoff hk hl0 ad sl sc hs lo2 l2 hsl hl2 fun w' h2 h3 => hK _ _ (h w' h2 h3)
end
end Go.Bl

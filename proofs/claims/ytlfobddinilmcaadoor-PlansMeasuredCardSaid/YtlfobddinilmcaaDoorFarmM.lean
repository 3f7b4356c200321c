/- Contracts of functions that this seat's laws reach, each: what one call returns and what it leaves in memory; no condition beyond each theorem's own hypotheses. -/
import Derived.Test.YtlfobddinilmcaaDoorFarmL
set_option linter.unusedVariables false
set_option linter.unusedSimpArgs false
namespace Go.Proofs.YtlfobddinilmcaaDoor
open Go Go.RowKit Go.Bl

theorem info_str : (Tryd.prog.info? 9).map (fun i => (i.zero, i.size, i.bytes)) = some (some (.string ByteArray.empty), 1, 16) := by kernel_rfl

def lateS (E : List Int) (j : List Jb) : Nat → Int
  | 0 => 0
  | k + 1 => if E.getD k 0 > (j.getD k default).due then lateS E j k + (E.getD k 0 - (j.getD k default).due) else lateS E j k
def lateL (E : List Int) (j : List Jb) : Nat → List ByteArray
  | 0 => []
  | k + 1 => if E.getD k 0 > (j.getD k default).due then lateL E j k ++ [(j.getD k default).key] else lateL E j k
theorem lateS_at {E : List Int} {j : List Jb} {k : Nat} (h1 : k < E.length) (h2 : k < j.length) : lateS E j (k + 1) = if E[k] > j[k].due then lateS E j k + (E[k] - j[k].due) else lateS E j k := by
  simp only [lateS, List.getD_eq_getElem?_getD, List.getElem?_eq_getElem h1, List.getElem?_eq_getElem h2, Option.getD_some]
theorem lateL_at {E : List Int} {j : List Jb} {k : Nat} (h1 : k < E.length) (h2 : k < j.length) : lateL E j (k + 1) = if E[k] > j[k].due then lateL E j k ++ [j[k].key] else lateL E j k := by
  simp only [lateL, List.getD_eq_getElem?_getD, List.getElem?_eq_getElem h1, List.getElem?_eq_getElem h2, Option.getD_some]
theorem lateL_len (E : List Int) (j : List Jb) : ∀ k, (lateL E j k).length ≤ k
  | 0 => by simp [lateL]
  | k + 1 => by
    have := lateL_len E j k
    unfold lateL; split <;> simp <;> omega
theorem lateS_bd {E : List Int} {j : List Jb} (hE : ∀ e ∈ E, 0 ≤ e ∧ e ≤ 100000000) (hl : E.length = j.length) (hj : ∀ x ∈ j, 0 ≤ x.due) : ∀ k, k ≤ j.length → 0 ≤ lateS E j k ∧ lateS E j k ≤ 100000000 * k
  | 0, _ => by simp [lateS]
  | k + 1, hk => by
    have ih := lateS_bd hE hl hj k (by omega)
    have h1 : k < E.length := by omega
    have h2 : k < j.length := by omega
    rw [lateS_at h1 h2]
    have b1 := hE _ (List.getElem_mem h1)
    have b2 := hj _ (List.getElem_mem h2)
    split <;> (constructor <;> push_cast <;> omega)
theorem rowC_bd {j : List Jb} {ch : Int} (h : JOk j ch) : ∀ (row : List Int) (_ : ∀ i ∈ row, 0 ≤ i ∧ i < (j.length : Int)) (c : Int × ByteArray) {N : Int} (_ : 0 ≤ c.1 ∧ c.1 ≤ N), ∀ q ∈ rowC j ch c row, 0 ≤ q.2 ∧ q.2 ≤ N + 200000 * row.length
  | [], _, c, N, hc => by simp [rowC]
  | i :: r, hr, c, N, hc => by
    have h1 := doC_bd h (hr i (by simp)) hc
    have ih := rowC_bd h r (fun k hk => hr k (by simp [hk])) (doC c (jobAt j i) ch) h1
    intro q hq
    rw [rowC, List.mem_cons] at hq
    rw [List.length_cons]
    rcases hq with rfl | hq
    · constructor
      · exact h1.1
      · have := h1.2; push_cast; omega
    · have := ih q hq
      constructor
      · exact this.1
      · have := this.2; push_cast; omega
theorem outO_bd {n : Nat} {N : Int} (hN : 0 ≤ N) : ∀ (L : List (Int × Int)) (_ : ∀ q ∈ L, 0 ≤ q.2 ∧ q.2 ≤ N), ∀ e ∈ outO n L, 0 ≤ e ∧ e ≤ N := by
  have : ∀ (L : List (Int × Int)) (o : List Int), (∀ q ∈ L, 0 ≤ q.2 ∧ q.2 ≤ N) → (∀ e ∈ o, 0 ≤ e ∧ e ≤ N) → ∀ e ∈ L.foldl (fun o q => o.set q.1.toNat q.2) o, 0 ≤ e ∧ e ≤ N := by
    intro L
    induction L with
    | nil => intro o _ h; exact h
    | cons q L ih =>
      intro o hL ho
      rw [List.foldl_cons]
      refine ih _ (fun q hq => hL q (by simp [hq])) fun e he => ?_
      rcases List.mem_or_eq_of_mem_set he with h | h
      · exact ho e h
      · rw [h]; exact hL q (by simp)
  intro L hL
  exact this L _ hL (fun e he => by have := List.eq_of_mem_replicate he; omega)
theorem pairsK_bd {p : List Prn} {j : List Jb} {plan : List (List Int)} {ch : Int} (h : POk p j plan ch) (k : Nat) : ∀ q ∈ pairsK p j plan ch k, 0 ≤ q.2 ∧ q.2 ≤ 100000000 := by
  intro q hq
  unfold pairsK at hq
  rw [List.mem_flatten] at hq
  obtain ⟨l, hl, hq⟩ := hq
  obtain ⟨i, _, rfl⟩ := List.mem_map.1 hl
  unfold rowP at hq
  by_cases hi : i < plan.length
  · have e : plan.getD i [] = plan[i] := by simp [List.getD, hi]
    rw [e] at hq
    have := rowC_bd h.toJOk plan[i] (fun x hx => h.ix x (row_in hi x hx)) (0, (p.getD i default).mat) (N := 0) (by simp) q hq
    have h2 := Nat.le_trans (row_len hi) h.few
    omega
  · have e : plan.getD i [] = [] := by simp [List.getD, hi]
    rw [e] at hq
    simp [rowC] at hq
theorem endsF_bd {p : List Prn} {j : List Jb} {plan : List (List Int)} {ch : Int} (h : POk p j plan ch) : ∀ e ∈ endsF p j plan ch, 0 ≤ e ∧ e ≤ 100000000 := outO_bd (by decide) _ (pairsK_bd h _)
def lateT (p : List Prn) (j : List Jb) (plan : List (List Int)) (ch : Int) : Int := if plannedF p j plan ch = 0 then lateS (endsF p j plan ch) j j.length else 0
def lateM (p : List Prn) (j : List Jb) (plan : List (List Int)) (ch : Int) : List ByteArray := if plannedF p j plan ch = 0 then lateL (endsF p j plan ch) j j.length else []

set_option maxHeartbeats 4000000 in
set_option maxRecDepth 100000 in
theorem late_any (A : Option Addr) (c : Nat) (p : List Prn) (B : Option Addr) (d : Nat) (j : List Jb) (C : Option Addr) (e0 : Nat) (plan : List (List Int)) (ch : Int) (w : World) (hp : Sl w 0 A p) (hj : Sl w 0 B j) (hpl : Sl w 0 C plan) :
    Calls Tryd.prog 18 #[.slice A p.length c, .slice B j.length d, .slice C plan.length e0, .int .i64 ch] w fun e w' => ∃ A' c', e = .returned (.tuple #[.int .i64 (lateT p j plan ch), .slice A' (lateM p j plan ch).length c', .int .i64 (plannedF p j plan ch)]) ∧ Sl w' 0 A' (lateM p j plan ch) ∧ w.grownBy w' none := by
  have hPl := planned_any A c p B d j C e0 plan ch w hp hj hpl
  by_cases h0 : plannedF p j plan ch = 0
  · have hE : lateT p j plan ch = lateS (endsF p j plan ch) j j.length := if_pos h0
    have hN : lateM p j plan ch = lateL (endsF p j plan ch) j j.length := if_pos h0
    rw [hE, hN]
    have hok := pok_of h0
    rw [h0] at hPl ⊢
    clear h0 hE hN
    have hEl := hide (endsF_len p j plan ch)
    have hEb := hide (endsF_bd hok)
    have hj5 := hok.len
    have hch := hok.chg
    replace hok := hide hok
    go_enter Tryd.func18, Tryd.ntmps18
    go_wp2_with fail
    refine hPl.mono ?_
    rintro e w1 ⟨rfl, hg1⟩
    go_wp2_with fail
    refine (ends_any _ _ _ _ _ _ _ _ _ _ _ (hp.pure hg1) (hj.pure hg1) (hpl.pure hg1) hok.out).mono ?_
    rintro e w2 ⟨g, rfl, ho, hg2⟩
    have hgw2 := gr_trans hg1 hg2
    have hE0 := ho.sl.mono (Nat.zero_le _)
    generalize hEE : endsF p j plan ch = E at *
    replace hEE := hide hEE
    clear ho hg1 hg2 hPl
    go_wp2_with fail
    have hE : ∀ e ∈ E, 0 ≤ e ∧ e ≤ 100000000 := hEb.out
    have hbd := hide (fun k hk => lateS_bd hE hEl.out (fun x hx => (hok.out.bd x hx).2.2.1) k hk)
    clear hE
    go_loopw [14, 15, 36] (fun s l i wr => ∃ (k : Nat) (A' : Option Addr) (c' : Nat), k ≤ j.length ∧ i = .int .i64 k ∧ s = .int .i64 (lateS E j k) ∧ l = .slice A' (lateL E j k).length c' ∧ Own wr w2.heap.size 9 A' c' (lateL E j k) ∧ w2.grownBy wr none) (fun _ _ i _ => j.length - (intOf i).toNat)
    case atStart => exact ⟨0, none, 0, Nat.zero_le _, rfl, rfl, rfl, Own.nil _ _ _, World.grownBy.refl _ _⟩
    case round =>
      obtain ⟨k, A', c', hk, rfl, rfl, rfl, hown, hg⟩ := hrel
      have hgw := gr_trans hgw2 hg
      by_cases hlt : k < j.length
      · have hltE : k < E.length := by rw [hEl.out]; exact hlt
        obtain ⟨gj, oj, cx, rfl, _, hbj, rfl, hc⟩ := (hj.pure hgw).at_ (by decide) hlt
        have j0 : wr.cell? ⟨gj, oj + k * 4, none⟩ = some (.string j[k].key) := hc 0 _ rfl
        have j1 : wr.cell? ⟨gj, oj + k * 4 + 1, none⟩ = some (.string j[k].mat) := hc 1 _ rfl
        have j2 : wr.cell? ⟨gj, oj + k * 4 + 2, none⟩ = some (.int .i64 j[k].min) := hc 2 _ rfl
        have j3 : wr.cell? ⟨gj, oj + k * 4 + 3, none⟩ = some (.int .i64 j[k].due) := hc 3 _ rfl
        clear hc
        obtain ⟨g3, o3, cx, e3, _, hb3', rfl, hc⟩ := (hE0.pure hg).at_ (by decide) hltE
        injection e3 with e3
        injection e3 with e3 e4
        subst e3
        subst e4
        have r1 : _ := hc 0 _ rfl
        rw [show Enc.sz Int = 1 from rfl, Nat.mul_one, Nat.add_zero, Nat.zero_add] at r1
        clear hc
        have hS := lateS_at hltE hlt
        have hL := lateL_at hltE hlt
        have hSb := hbd.out k hk
        have hll := lateL_len E j k
        have hEk := hEb.out _ (List.getElem_mem hltE)
        have hdk := hok.out.bd _ (List.getElem_mem hlt)
        generalize lateS E j k = S at *
        generalize lateL E j k = L at *
        generalize E[k] = e at *
        generalize j[k] = Y at *
        have hgm := hg.size
        go_wp2_with fail
        obtain ⟨w9, hw9⟩ : ∃ x, x = (wr).alloc (.cells [.string Y.key, .string Y.mat, .int .i64 Y.min, .int .i64 Y.due].toArray 72) := ⟨_, rfl⟩
        have hg9 : (wr).grownBy w9 none := by rw [hw9]; exact gr_alloc (World.grownBy.refl _ _) _
        have hb9 : Box w9 (wr).heap.size 72 [.string Y.key, .string Y.mat, .int .i64 Y.min, .int .i64 Y.due] := by rw [hw9]; exact Box.new _ _ _
        have hxs9 := hb9.lt
        rw [← hw9]
        clear hw9
        obtain ⟨x9, hx9⟩ : ∃ x, x = (wr).heap.size := ⟨_, rfl⟩
        rw [← hx9] at hb9 hxs9 ⊢
        have hxl9 : (wr).heap.size ≤ x9 := by omega
        clear hx9
        obtain ⟨y0, _⟩ := hb9.c 0 rfl
        obtain ⟨y3, _⟩ := hb9.c 3 rfl
        replace r1 := hg9.k r1
        replace hg := gr_trans hg hg9
        replace hown := hown.pure hg9
        clear hgw j0 j1 j2 j3 hg9 hb9
        by_cases hgt : e > Y.due
        · have hb : decide (e > Y.due) = true := by simp [hgt]
          rw [if_pos hgt] at hS hL
          replace hS := hide hS
          replace hL := hide hL
          clear hgt
          go_quiet (fail)
          go_wp2_with fail
          go_quiet (fail)
          go_wp2_with (at_builtin; obtain ⟨i0, hi, hz, hi1, hi2⟩ := info_parts info_str; refine wpList_push (α := ByteArray) _ rfl (.tmp 57) (.tmp 60) _ rfl w2.heap.size 9 i0 _ 16 Tryd.underlying41 hi hz hi1 hi2 rfl _ _ _ L rfl ?c1 (by exact hown.pure (by repeat (first | exact World.grownBy.refl _ _ | assumption | refine gr_alloc ?_ _ | (apply gr_tail; assumption) | refine gr_drewN ?_ _ | refine gr_drew ?_))) 0 ⟨_, 0, none⟩ 1 1 [Y.key] rfl rfl (by exact sl_oneAt _ 0 _ _ _ _ (by first | rfl | simp) (Nat.zero_le _) rfl) ?c2 ?c3 ?c4 ?_)
          case c1 => rfl
          case c2 => first | omega | (simp; omega)
          case c3 => first | (simp [maxLen]; omega) | (unfold maxLen; omega)
          case c4 => first | omega | (simp; omega)
          intro A5 c5 w5 hown5 hup5
          have hg5 : w2.grownBy w5 none := hup5.gr (Nat.le_refl _) (by first | exact (by repeat (first | exact World.grownBy.refl _ _ | assumption | refine gr_alloc ?_ _ | (apply gr_tail; assumption) | refine gr_drewN ?_ _ | refine gr_drew ?_)) | exact gr_alloc (by repeat (first | exact World.grownBy.refl _ _ | assumption | refine gr_alloc ?_ _ | (apply gr_tail; assumption) | refine gr_drewN ?_ _ | refine gr_drew ?_)) _)
          have hl5 : Hid ((lateL E j (k + 1)).length = L.length + 1) := by rw [Hid, hL.out]; simp
          rw [← hL.out] at hown5
          go_wp2
          (go_roundw; (case rel => exact ⟨k + 1, A5, c5, by omega, by go_num, by rw [hS.out], by rw [hl5.out], hown5, hg5⟩); (case measure => simp [intOf]; omega))
        · have hb : decide (e > Y.due) = false := by simp; omega
          rw [if_neg hgt] at hS hL
          replace hS := hide hS
          replace hL := hide hL
          clear hgt
          go_quiet (fail)
          go_wp2_with fail
          (go_roundw; (case rel => exact ⟨k + 1, A', c', by omega, by go_num, by rw [hS.out], by rw [hL.out], by rw [hL.out]; exact hown.pure (by repeat (first | exact World.grownBy.refl _ _ | assumption | refine gr_alloc ?_ _ | (apply gr_tail; assumption) | refine gr_drewN ?_ _ | refine gr_drew ?_)), by exact (by repeat (first | exact World.grownBy.refl _ _ | assumption | refine gr_alloc ?_ _ | (apply gr_tail; assumption) | refine gr_drewN ?_ _ | refine gr_drew ?_))⟩); (case measure => simp [intOf]; omega))
      · have hke : k = j.length := by omega
        subst hke
        go_wp2_with fail
        have hEE := hEE.out
        subst hEE
        refine bodyPost_ret (v := .tuple #[.int .i64 (lateS (endsF p j plan ch) j j.length), .slice A' (lateL (endsF p j plan ch) j j.length).length c', .int .i64 0]) (by simp [results, Tryd.results18, go_sem]) rfl ⟨_, _, rfl, hown.sl.mono (Nat.zero_le _), hgw⟩
  · have hE : lateT p j plan ch = 0 := if_neg h0
    have hN : lateM p j plan ch = [] := if_neg h0
    rw [hE, hN]
    clear hE hN
    generalize plannedF p j plan ch = F at *
    have hb : (F != 0) = true := by simp [h0]
    clear h0
    go_enter Tryd.func18, Tryd.ntmps18
    go_wp2_with fail
    refine hPl.mono ?_
    rintro e w1 ⟨rfl, hg1⟩
    go_wp2_with fail
    exact bodyPost_ret (v := .tuple #[.int .i64 0, .slice none 0 0, .int .i64 F]) (by simp [results, Tryd.results18, go_sem]) rfl ⟨_, _, rfl, Sl.nil, hg1⟩

set_option maxHeartbeats 4000000 in
set_option maxRecDepth 100000 in
theorem lateBy_any (A : Option Addr) (c : Nat) (p : List Prn) (B : Option Addr) (d : Nat) (j : List Jb) (C : Option Addr) (e0 : Nat) (plan : List (List Int)) (ch : Int) (w : World) (hp : Sl w 0 A p) (hj : Sl w 0 B j) (hpl : Sl w 0 C plan) (hok : POk p j plan ch) :
    Calls Tryd.prog 22 #[.slice A p.length c, .slice B j.length d, .slice C plan.length e0, .int .i64 ch] w fun e w' => ∃ A' c', e = .returned (.tuple #[.int .i64 (lateS (endsF p j plan ch) j j.length), .slice A' (lateL (endsF p j plan ch) j j.length).length c']) ∧ Sl w' 0 A' (lateL (endsF p j plan ch) j j.length) ∧ w.grownBy w' none := by
  have hEl := hide (endsF_len p j plan ch)
  have hEb := hide (endsF_bd hok)
  have hj5 := hok.len
  have hch := hok.chg
  replace hok := hide hok
  go_enter Tryd.func22, Tryd.ntmps22
  go_wp2_with fail
  refine (endsBy_any _ _ _ _ _ _ _ _ _ _ _ hp hj hpl hok.out).mono ?_
  rintro e w2 ⟨g, rfl, ho, hgw2⟩
  have hE0 := ho.sl.mono (Nat.zero_le _)
  generalize hEE : endsF p j plan ch = E at *
  replace hEE := hide hEE
  clear ho
  go_wp2_with fail
  have hE : ∀ e ∈ E, 0 ≤ e ∧ e ≤ 100000000 := hEb.out
  have hbd := hide (fun k hk => lateS_bd hE hEl.out (fun x hx => (hok.out.bd x hx).2.2.1) k hk)
  clear hE
  go_loopw [12, 13, 26] (fun s l i wr => ∃ (k : Nat) (A' : Option Addr) (c' : Nat), k ≤ j.length ∧ i = .int .i64 k ∧ s = .int .i64 (lateS E j k) ∧ l = .slice A' (lateL E j k).length c' ∧ Own wr w2.heap.size 9 A' c' (lateL E j k) ∧ w2.grownBy wr none) (fun _ _ i _ => j.length - (intOf i).toNat)
  case atStart => exact ⟨0, none, 0, Nat.zero_le _, rfl, rfl, rfl, Own.nil _ _ _, World.grownBy.refl _ _⟩
  case round =>
    obtain ⟨k, A', c', hk, rfl, rfl, rfl, hown, hg⟩ := hrel
    have hgw := gr_trans hgw2 hg
    by_cases hlt : k < j.length
    · have hltE : k < E.length := by rw [hEl.out]; exact hlt
      obtain ⟨gj, oj, cx, rfl, _, hbj, rfl, hc⟩ := (hj.pure hgw).at_ (by decide) hlt
      have j0 : wr.cell? ⟨gj, oj + k * 4, none⟩ = some (.string j[k].key) := hc 0 _ rfl
      have j1 : wr.cell? ⟨gj, oj + k * 4 + 1, none⟩ = some (.string j[k].mat) := hc 1 _ rfl
      have j2 : wr.cell? ⟨gj, oj + k * 4 + 2, none⟩ = some (.int .i64 j[k].min) := hc 2 _ rfl
      have j3 : wr.cell? ⟨gj, oj + k * 4 + 3, none⟩ = some (.int .i64 j[k].due) := hc 3 _ rfl
      clear hc
      obtain ⟨g3, o3, cx, e3, _, hb3', rfl, hc⟩ := (hE0.pure hg).at_ (by decide) hltE
      injection e3 with e3
      injection e3 with e3 e4
      subst e3
      subst e4
      have r1 : _ := hc 0 _ rfl
      rw [show Enc.sz Int = 1 from rfl, Nat.mul_one, Nat.add_zero, Nat.zero_add] at r1
      clear hc
      have hS := lateS_at hltE hlt
      have hL := lateL_at hltE hlt
      have hSb := hbd.out k hk
      have hll := lateL_len E j k
      have hEk := hEb.out _ (List.getElem_mem hltE)
      have hdk := hok.out.bd _ (List.getElem_mem hlt)
      generalize lateS E j k = S at *
      generalize lateL E j k = L at *
      generalize E[k] = e at *
      generalize j[k] = Y at *
      have hgm := hg.size
      go_wp2_with fail
      obtain ⟨w9, hw9⟩ : ∃ x, x = (wr).alloc (.cells [.string Y.key, .string Y.mat, .int .i64 Y.min, .int .i64 Y.due].toArray 72) := ⟨_, rfl⟩
      have hg9 : (wr).grownBy w9 none := by rw [hw9]; exact gr_alloc (World.grownBy.refl _ _) _
      have hb9 : Box w9 (wr).heap.size 72 [.string Y.key, .string Y.mat, .int .i64 Y.min, .int .i64 Y.due] := by rw [hw9]; exact Box.new _ _ _
      have hxs9 := hb9.lt
      rw [← hw9]
      clear hw9
      obtain ⟨x9, hx9⟩ : ∃ x, x = (wr).heap.size := ⟨_, rfl⟩
      rw [← hx9] at hb9 hxs9 ⊢
      have hxl9 : (wr).heap.size ≤ x9 := by omega
      clear hx9
      obtain ⟨y0, _⟩ := hb9.c 0 rfl
      obtain ⟨y3, _⟩ := hb9.c 3 rfl
      replace r1 := hg9.k r1
      replace hg := gr_trans hg hg9
      replace hown := hown.pure hg9
      clear hgw j0 j1 j2 j3 hg9 hb9
      by_cases hgt : e > Y.due
      · have hb : decide (e > Y.due) = true := by simp [hgt]
        rw [if_pos hgt] at hS hL
        replace hS := hide hS
        replace hL := hide hL
        clear hgt
        go_quiet (fail)
        go_wp2_with fail
        go_quiet (fail)
        go_wp2_with (at_builtin; obtain ⟨i0, hi, hz, hi1, hi2⟩ := info_parts info_str; refine wpList_push (α := ByteArray) _ rfl (.tmp 47) (.tmp 50) _ rfl w2.heap.size 9 i0 _ 16 Tryd.underlying41 hi hz hi1 hi2 rfl _ _ _ L rfl ?c1 (by exact hown.pure (by repeat (first | exact World.grownBy.refl _ _ | assumption | refine gr_alloc ?_ _ | (apply gr_tail; assumption) | refine gr_drewN ?_ _ | refine gr_drew ?_))) 0 ⟨_, 0, none⟩ 1 1 [Y.key] rfl rfl (by exact sl_oneAt _ 0 _ _ _ _ (by first | rfl | simp) (Nat.zero_le _) rfl) ?c2 ?c3 ?c4 ?_)
        case c1 => rfl
        case c2 => first | omega | (simp; omega)
        case c3 => first | (simp [maxLen]; omega) | (unfold maxLen; omega)
        case c4 => first | omega | (simp; omega)
        intro A5 c5 w5 hown5 hup5
        have hg5 : w2.grownBy w5 none := hup5.gr (Nat.le_refl _) (by first | exact (by repeat (first | exact World.grownBy.refl _ _ | assumption | refine gr_alloc ?_ _ | (apply gr_tail; assumption) | refine gr_drewN ?_ _ | refine gr_drew ?_)) | exact gr_alloc (by repeat (first | exact World.grownBy.refl _ _ | assumption | refine gr_alloc ?_ _ | (apply gr_tail; assumption) | refine gr_drewN ?_ _ | refine gr_drew ?_)) _)
        have hl5 : Hid ((lateL E j (k + 1)).length = L.length + 1) := by rw [Hid, hL.out]; simp
        rw [← hL.out] at hown5
        go_wp2
        (go_roundw; (case rel => exact ⟨k + 1, A5, c5, by omega, by go_num, by rw [hS.out], by rw [hl5.out], hown5, hg5⟩); (case measure => simp [intOf]; omega))
      · have hb : decide (e > Y.due) = false := by simp; omega
        rw [if_neg hgt] at hS hL
        replace hS := hide hS
        replace hL := hide hL
        clear hgt
        go_quiet (fail)
        go_wp2_with fail
        (go_roundw; (case rel => exact ⟨k + 1, A', c', by omega, by go_num, by rw [hS.out], by rw [hL.out], by rw [hL.out]; exact hown.pure (by repeat (first | exact World.grownBy.refl _ _ | assumption | refine gr_alloc ?_ _ | (apply gr_tail; assumption) | refine gr_drewN ?_ _ | refine gr_drew ?_)), by exact (by repeat (first | exact World.grownBy.refl _ _ | assumption | refine gr_alloc ?_ _ | (apply gr_tail; assumption) | refine gr_drewN ?_ _ | refine gr_drew ?_))⟩); (case measure => simp [intOf]; omega))
    · have hke : k = j.length := by omega
      subst hke
      go_wp2_with fail
      have hEE := hEE.out
      subst hEE
      refine bodyPost_ret (v := .tuple #[.int .i64 (lateS (endsF p j plan ch) j j.length), .slice A' (lateL (endsF p j plan ch) j j.length).length c']) (by simp [results, Tryd.results22, go_sem]) rfl ⟨_, _, rfl, hown.sl.mono (Nat.zero_le _), hgw⟩
end Go.Proofs.YtlfobddinilmcaaDoor

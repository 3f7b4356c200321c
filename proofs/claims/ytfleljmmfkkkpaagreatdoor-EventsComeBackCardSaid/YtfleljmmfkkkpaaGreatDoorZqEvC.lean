/- Contracts of functions that this seat's laws reach, each: what one call returns and what it leaves in memory; no condition beyond each theorem's own hypotheses. -/
import Derived.Test.YtfleljmmfkkkpaaGreatDoorZqEvF
import Derived.Test.YtfleljmmfkkkpaaGreatDoorZqChgA
import Derived.Test.YtfleljmmfkkkpaaGreatDoorZqTabS
import Derived.Test.YtfleljmmfkkkpaaGreatDoorZqTree
set_option linter.unusedVariables false
set_option linter.unusedSimpArgs false
namespace Go.Proofs.YtfleljmmfkkkpaaGreatDoor
open Go Go.RowKit Go.Bl

theorem row_strE (w : World) (lo : Nat) : ∀ l : List ByteArray, Row w lo l (l.map Value.string)
  | [] => rfl
  | x :: l => ⟨[.string x], l.map Value.string, rfl, rfl, row_strE w lo l⟩

theorem own_litE {α : Type} [Enc α] [Flat α] (w : World) (lo : Nat) (cs : List Value) (t : TypeId) (l : List α) (g n : Nat) (hg : g = w.heap.size) (hn : l.length = n) (hlo : lo ≤ w.heap.size) (hm : l.length ≤ maxLen) (hr : Row w lo l cs) :
    Own (w.alloc (.cells cs.toArray t)) lo t (some ⟨g, 0, none⟩) n l := by
  subst hg; subst hn
  have hlen := hr.len
  exact ⟨hm, cs, hr.flat, hlen, .inr ⟨w.heap.size, l.length, cs.toArray, rfl, hlo, heap_alloc_new w _, Nat.le_refl _, hm, by simpa using hlen, by rw [← hlen]; simp⟩⟩

theorem own_strs (w : World) (lo : Nat) (t : TypeId) (l : List ByteArray) (g n : Nat) (hg : g = w.heap.size) (hn : l.length = n) (hlo : lo ≤ w.heap.size) (hm : l.length ≤ maxLen) : Own (w.alloc (.cells (l.map Value.string).toArray t)) lo t (some ⟨g, 0, none⟩) n l :=
  own_litE w lo _ t l g n hg hn hlo hm (row_strE w lo l)

theorem info_strE : (Tryz.prog.info? 9).map (fun i => (i.zero, i.size, i.bytes)) = some (some (.string ⟨#[]⟩), 1, 16) := by kernel_rfl

theorem kwB_at {k : Int} (h : 1 ≤ k ∧ k ≤ 6) : ∃ n : Nat, k = (n : Int) ∧ n < 7 ∧ kwB[n]? = some (mkB (kw k)) := by
  rcases kw_cases h with rfl | rfl | rfl | rfl | rfl | rfl
  · exact ⟨1, rfl, by decide, rfl⟩
  · exact ⟨2, rfl, by decide, rfl⟩
  · exact ⟨3, rfl, by decide, rfl⟩
  · exact ⟨4, rfl, by decide, rfl⟩
  · exact ⟨5, rfl, by decide, rfl⟩
  · exact ⟨6, rfl, by decide, rfl⟩

theorem kindWords_any (w : World) :
    Calls Tryz.prog 14 #[] w fun e w' => ∃ g, e = .returned (.slice (some ⟨g, 0, none⟩) 7 7) ∧ Sl w' 0 (some ⟨g, 0, none⟩) kwB ∧ w.grownBy w' none := by
  go_enter Tryz.func14, Tryz.ntmps14
  go_wp2_with fail
  go_ret
  exact ⟨w.heap.size, rfl, (own_strs w 0 9 kwB _ 7 rfl rfl (Nat.zero_le _) (by simp [maxLen, kwB])).sl, gr_alloc (World.grownBy.refl _ _) _⟩

theorem eventWords_any (w : World) :
    Calls Tryz.prog 50 #[] w fun e w' => ∃ g, e = .returned (.slice (some ⟨g, 0, none⟩) 7 7) ∧ Sl w' 0 (some ⟨g, 0, none⟩) kwB ∧ w.grownBy w' none := by
  go_enter Tryz.func50, Tryz.ntmps50
  go_wp2_with fail
  go_ret
  exact ⟨w.heap.size, rfl, (own_strs w 0 9 kwB _ 7 rfl rfl (Nat.zero_le _) (by simp [maxLen, kwB])).sl, gr_alloc (World.grownBy.refl _ _) _⟩

def evWsB (e : Ev) : List ByteArray := [mkB (Lib.itoa e.at_), e.pr, mkB (kw e.kind)] ++ (if xtra e = [] then [] else [e.job ++ e.mat])

theorem job_mat (e : Ev) : e.job ++ e.mat = mkB (xtra e) := by
  unfold xtra
  rw [← mkB_append, data_mkB, data_mkB]

theorem evWsB_data (e : Ev) : (evWsB e).map (·.data.toList) = evWords e := by
  unfold evWsB evWords
  rw [job_mat]
  by_cases h : xtra e = []
  · simp [h, mkB_data]
  · simp [h, mkB_data]

theorem jm_emp (e : Ev) : (e.job ++ e.mat).toList.isEmpty = decide (xtra e = []) := by
  rw [Lib.toList_data, job_mat, mkB_data]
  cases xtra e <;> simp

theorem evText_snoc {l : List Ev} {k : Nat} (h : k < l.length) : evText (l.take (k + 1)) = evText (l.take k) ++ (evLine l[k] ++ [10]) := by
  unfold evText
  rw [take_snoc h, List.map_append, ended_append]
  simp [ended]

theorem evText_pre (l : List Ev) (k : Nat) : (evText (l.take k)).length ≤ (evText l).length := by
  have e : evText l = evText (l.take k) ++ evText (l.drop k) := by
    unfold evText
    rw [← ended_append, ← List.map_append, List.take_append_drop]
  rw [e, List.length_append]
  omega

theorem evOk_sz {e : Ev} (h : EvOk e) : e.job.size ≤ 40 ∧ e.mat.size ≤ 40 := by
  constructor
  · by_cases h1 : e.kind = 1
    · exact (keyB_all (h.j1 h1)).2.1
    · rw [h.j0 h1]; decide
  · by_cases h4 : e.kind = 4
    · exact (keyB_all (h.m1 h4)).2.1
    · rw [h.m0 h4]; decide

set_option maxHeartbeats 4000000 in
set_option maxRecDepth 100000 in
theorem evText_any (A : Option Addr) (c : Nat) (l : List Ev) (w : World) (hl : Sl w 0 A l) (hp : evsF l = 0) (hsz : (evText l).length ≤ 200000) (hT : Tab w) :
    Calls Tryz.prog 5 #[.slice A l.length c] w fun e w' => e = .returned (.tuple #[.string (mkB (evText l)), .int .i64 0]) ∧ w.grownBy w' none := by
  have hC := evTextFault_any A c l w hl
  rw [hp] at hC
  have hm1 := hl.1
  unfold maxLen at hm1
  have hall := hide (evsF_zero hp).2
  replace hsz := hide hsz
  replace hp := hide hp
  go_enter Tryz.func5, Tryz.ntmps5
  go_wp2_with fail
  refine hC.mono ?_
  rintro e w1 ⟨rfl, hg1⟩
  clear hC
  go_upto_region 5 with fail
  obtain ⟨w5, hw5⟩ : ∃ x, x = (w1).alloc (.cells #[.pointer none, .slice none 0 0] 49) := ⟨_, rfl⟩
  have hB5 : Bld w5 (w1).heap.size (w1).heap.size [] := by rw [hw5]; exact Bld.new _ _ (Nat.le_refl _)
  have hgb5 : (w1).grownBy w5 none := by rw [hw5]; exact gr_alloc (World.grownBy.refl _ _) _
  rw [← hw5]
  clear hw5
  obtain ⟨x5, hx5⟩ : ∃ x, x = (w1).heap.size := ⟨_, rfl⟩
  rw [← hx5] at hB5 ⊢
  have hxg5 : x5 ≤ (w1).heap.size := Nat.le_of_eq hx5
  replace hx5 := hide hx5
  go_wp2_with fail
  go_loopw [17] (fun i wr => ∃ k : Nat, k ≤ l.length ∧ i = .int .i64 k ∧ Bld wr x5 x5 (evText (l.take k)) ∧ w1.grownBy wr none) (fun i _ => l.length - (intOf i).toNat)
  case atStart => exact ⟨0, Nat.zero_le _, rfl, hB5, hgb5⟩
  case round =>
    clear hB5 hgb5
    obtain ⟨k, hk, rfl, hB, hgj⟩ := hrel
    by_cases hlt : k < l.length
    · obtain ⟨g, o, cx, rfl, hb0, hb1, rfl, hc⟩ := hl.at_ (by decide) hlt
      have hgwr : w.grownBy wr none := hg1.t hgj
      have c0 : wr.cell? ⟨g, o + k * 5, none⟩ = some (.int .i64 l[k].at_) := hgwr.k (hc 0 _ rfl)
      have c1 : wr.cell? ⟨g, o + k * 5 + 1, none⟩ = some (.int .i64 l[k].kind) := hgwr.k (hc 1 _ rfl)
      have c2 : wr.cell? ⟨g, o + k * 5 + 2, none⟩ = some (.string l[k].pr) := hgwr.k (hc 2 _ rfl)
      have c3 : wr.cell? ⟨g, o + k * 5 + 3, none⟩ = some (.string l[k].job) := hgwr.k (hc 3 _ rfl)
      have c4 : wr.cell? ⟨g, o + k * 5 + 4, none⟩ = some (.string l[k].mat) := hgwr.k (hc 4 _ rfl)
      clear hc
      have hok := hall.out _ (List.getElem_mem hlt)
      have hsn := hide (evText_snoc hlt)
      have hpl : (evText (l.take k)).length ≤ 200000 := Nat.le_trans (evText_pre l k) hsz.out
      generalize l[k] = d at *
      have hdl := evLine_len hok
      have h1 := hok.at1
      have hx : -9223372036854775808 ≤ d.at_ ∧ d.at_ ≤ 9223372036854775807 := by omega
      obtain ⟨kn, hkn, hk7, hkw⟩ := kwB_at hok.kd
      have hwd : Hid ((evWsB d).map (·.data.toList) = evWords d) := evWsB_data d
      have hjm := jm_emp d
      obtain ⟨zj, zm⟩ := evOk_sz hok
      have hwsb : evWsB d = [mkB (Lib.itoa d.at_), d.pr, mkB (kw d.kind)] ++ (if xtra d = [] then [] else [d.job ++ d.mat]) := rfl
      rw [hkn] at c1
      generalize mkB (kw d.kind) = KW at *
      have hxl : Hid ((evWsB d).length ≤ 4 ∧ evWsB d ≠ []) := by rw [Hid, hwsb]; constructor <;> (split <;> simp)
      have hjl : Hid ((joined ((evWsB d).map (·.data.toList))).length ≤ 164) := by rw [Hid, hwd.out]; exact hdl
      have hev : Hid (joined ((evWsB d).map (·.data.toList)) = evLine d) := by rw [Hid, hwd.out]; rfl
      clear hok h1 hwd
      have hTr : Tab wr := hT.gr hgwr
      obtain ⟨WS, hWS⟩ : ∃ x, evWsB d = x := ⟨_, rfl⟩
      rw [hWS] at hwsb hxl hjl hev
      clear hWS
      go_upto_region 8 with fail
      obtain ⟨w7, hw7⟩ : ∃ x, x = (wr).alloc (.cells [.int .i64 d.at_, .int .i64 (kn : Int), .string d.pr, .string d.job, .string d.mat].toArray 37) := ⟨_, rfl⟩
      have hg7 : (wr).grownBy w7 none := by rw [hw7]; exact gr_alloc (World.grownBy.refl _ _) _
      have hb7 : Box w7 (wr).heap.size 37 [.int .i64 d.at_, .int .i64 (kn : Int), .string d.pr, .string d.job, .string d.mat] := by rw [hw7]; exact Box.new _ _ _
      have hxs7 := hb7.lt
      rw [← hw7]
      clear hw7
      obtain ⟨x7, hx7⟩ : ∃ x, x = (wr).heap.size := ⟨_, rfl⟩
      rw [← hx7] at hb7 hxs7 ⊢
      have hxl7 : (wr).heap.size ≤ x7 := by omega
      clear hx7
      go_cut [8] from 21 to 31 (fun s8 wx => ∃ g8, s8 = .slice (some ⟨g8, 0, none⟩) 3 3 ∧ Own wx w7.heap.size 9 (some ⟨g8, 0, none⟩) 3 [mkB (Lib.itoa d.at_), d.pr, KW] ∧ w7.grownBy wx none)
      case first =>
        obtain ⟨b0, _⟩ := hb7.c 0 rfl
        obtain ⟨b1, _⟩ := hb7.c 1 rfl
        obtain ⟨b2, _⟩ := hb7.c 2 rfl
        clear c0 c1 c2 c3 c4
        have hk0 : (0 : Int) ≤ (kn : Int) ∧ (kn : Int) < 7 := by omega
        refine wp_region_tree (fun wx => w7.grownBy wx none) [2, 1, 0, 2, 1, 0, 2, 1, 2, 0, 0, 2] (.bl 0 (.bl 1 (.bl 3 (.bl 4 (.bl 6 (.bl 7 (.ef 2 (.ef 5 (.bl 8 (.ef 9 (.ef 10 (.bl 11 .done)))))))))))) (by kernel_rfl) (by kernel_rfl) (gr_drew (World.grownBy.refl _ _)) ?_
        obtain ⟨W1, hW1⟩ : ∃ x, x = (w7).drew := ⟨_, rfl⟩
        rw [← hW1]
        have hgW1 : (w7).grownBy W1 none := by rw [hW1]; exact gr_drew (World.grownBy.refl _ _)
        clear hW1
        refine tree_p rfl rfl rfl rfl _ rfl (by simp) (fun K hK => ?_)
        apply Exists.intro
        refine ⟨fun wq K' hK' => ?_, ?_⟩
        · go_wp2_with fail
          exact hK'
        go_simp
        refine hK _ ?_
        clear hK K
        refine tree_b rfl rfl rfl rfl _ rfl (by simp) (fun K hK => ?_)
        apply Exists.intro
        refine ⟨fun wq hq K' hK' => ?_, ?_⟩
        · have y0 := hq.k b0
          have y1 := hq.k b1
          have y2 := hq.k b2
          go_wp2_with fail
          exact hK'
        go_simp
        refine hK _ ?_
        clear hK K
        refine tree_p rfl rfl rfl rfl _ rfl (by simp) (fun K hK => ?_)
        apply Exists.intro
        refine ⟨fun wq K' hK' => ?_, ?_⟩
        · go_wp2_with fail
          exact hK'
        go_simp
        refine hK _ ?_
        clear hK K
        refine tree_b rfl rfl rfl rfl _ rfl (by simp) (fun K hK => ?_)
        apply Exists.intro
        refine ⟨fun wq hq K' hK' => ?_, ?_⟩
        · have y0 := hq.k b0
          have y1 := hq.k b1
          have y2 := hq.k b2
          go_wp2_with fail
          exact hK'
        go_simp
        refine hK _ ?_
        clear hK K
        refine tree_p rfl rfl rfl rfl _ rfl (by simp) (fun K hK => ?_)
        apply Exists.intro
        refine ⟨fun wq K' hK' => ?_, ?_⟩
        · go_wp2_with fail
          exact hK'
        go_simp
        refine hK _ ?_
        clear hK K
        refine tree_b rfl rfl rfl rfl _ rfl (by simp) (fun K hK => ?_)
        apply Exists.intro
        refine ⟨fun wq hq K' hK' => ?_, ?_⟩
        · have y0 := hq.k b0
          have y1 := hq.k b1
          have y2 := hq.k b2
          go_wp2_with fail
          exact hK'
        go_simp
        refine hK _ ?_
        clear hK K
        refine tree_e rfl rfl (fun K hK => ?_)
        go_wp2_with fail
        refine (itoa_any d.at_ W1 hx (hTr.gr (hg7.t (gr_trans hgW1 (World.grownBy.refl _ _))))).mono ?_
        rintro e w23 ⟨rfl, hg2⟩
        have hW23 : w7.grownBy w23 none := gr_trans (gr_trans hgW1 (World.grownBy.refl _ _)) hg2
        go_wp2_with fail
        try go_simp
        refine hK _ _ (hW23) ?_
        clear hK K
        refine tree_e rfl rfl (fun K hK => ?_)
        go_wp2_with fail
        refine (kindWords_any w23).mono ?_
        rintro e w26 ⟨g5, rfl, hk5, hg5⟩
        have hW26 : w7.grownBy w26 none := gr_trans (gr_trans hgW1 hg2) hg5
        have hq5 : w26.cell? ⟨g5, kn, none⟩ = some (.string KW) := by have := strs_cells hk5 kn KW hkw; rwa [Nat.zero_add] at this
        go_wp2_with fail
        try go_simp
        refine hK _ _ (hW26) ?_
        clear hK K
        refine tree_p rfl rfl rfl rfl _ rfl (by simp) (fun K hK => ?_)
        apply Exists.intro
        refine ⟨fun wq K' hK' => ?_, ?_⟩
        · go_wp2_with fail
          exact hK'
        go_simp
        refine hK _ ?_
        clear hK K
        refine tree_e rfl rfl (fun K hK => ?_)
        go_wp2_with fail
        try go_simp
        refine hK _ _ (hW26) ?_
        clear hK K
        refine tree_e0 (by kernel_rfl) rfl rfl (fun K hK => ?_)
        go_wp2_with fail
        try go_simp
        refine hK _ _ trivial ?_
        clear hK K
        refine tree_p rfl rfl rfl rfl _ rfl (by simp) (fun K hK => ?_)
        apply Exists.intro
        refine ⟨fun wq K' hK' => ?_, ?_⟩
        · go_wp2_with fail
          exact hK'
        go_simp
        refine hK _ ?_
        clear hK K
        refine tree_done ?_
        go_wp2_with fail
        go_meet
        exact ⟨_, rfl, own_strs _ _ 9 [mkB (Lib.itoa d.at_), d.pr, KW] _ 3 (by first | rfl | simp) rfl hW26.size (by simp [maxLen]), gr_alloc hW26 _⟩
      case rest =>
      obtain ⟨g8, rfl, hO8, hg8⟩ := hcut
      rename World => w8
      have hb8 := hb7.pure hg8
      obtain ⟨b3, _⟩ := hb8.c 3 rfl
      obtain ⟨b4, _⟩ := hb8.c 4 rfl
      have hgw8 := hg7.t hg8
      have hbase := hg8.size
      clear c0 c1 c2 c3 c4 hkw
      go_upto_region 10 with fail
      generalize hX : d.job ++ d.mat = X at *
      replace hX := hide hX
      obtain ⟨B, hBB⟩ : ∃ B, decide (xtra d = []) = B := ⟨_, rfl⟩
      rw [hBB] at hjm
      replace hBB := hide hBB
      replace hwsb := hide hwsb
      go_upto_if 38 with fail
      go_cut [8] (fun s8 wx => ∃ A8 c8, s8 = .slice A8 WS.length c8 ∧ WS.length ≤ c8 ∧ Sl wx 0 A8 WS ∧ w7.grownBy wx none)
      case first =>
        cases B with
        | true =>
          have hsl : Sl w8 0 (some ⟨g8, 0, none⟩) WS ∧ WS.length = 3 := by
            have e := hwsb.out
            rw [if_pos (of_decide_eq_true hBB.out), List.append_nil] at e
            rw [e]; exact ⟨hO8.sl.mono (Nat.zero_le _), rfl⟩
          replace hsl := hide hsl
          go_wp2_with fail
          go_meet
          exact ⟨some ⟨g8, 0, none⟩, 3, by rw [hsl.out.2], by rw [hsl.out.2]; exact Nat.le_refl _, hsl.out.1, hg8⟩
        | false =>
          have hwse : Hid (WS = [mkB (Lib.itoa d.at_), d.pr, KW] ++ [X]) := by
            have e := hwsb.out
            rw [if_neg (of_decide_eq_false hBB.out)] at e
            exact e
          obtain ⟨i0, hi, hz, hi1, hi2⟩ := info_parts info_strE
          go_wp2_with (at_builtin; refine wpList_push (α := ByteArray) _ rfl (.tmp 39) (.tmp 41) _ rfl w7.heap.size 9 i0 _ 16 Tryz.underlying51 hi hz hi1 hi2 rfl _ _ _ [mkB (Lib.itoa d.at_), d.pr, KW] rfl ?c1 (by exact hO8.pure (gr_alloc (World.grownBy.refl _ _) _)) 0 ⟨_, 0, none⟩ 1 1 [X] rfl rfl (by exact sl_oneAt _ 0 [.string (X)] _ _ _ (by first | rfl | simp) (Nat.zero_le _) rfl) ?c2 ?c3 ?c4 ?_)
          case c1 => rfl
          case c2 => simp
          case c3 => simp [maxLen]
          case c4 => simp; omega
          intro A9 c9 w9 hO9 hU9
          have hcap := hO9.cap
          have hwe : [mkB (Lib.itoa d.at_), d.pr, KW, X] = WS := by rw [hwse.out]; rfl
          have hO9' : Own w9 w7.heap.size 9 A9 c9 WS := by rw [← hwe]; exact hO9
          have hcap' : WS.length ≤ c9 := by rw [← hwe]; exact hcap
          have hln : WS.length = 4 := by rw [hwse.out]; rfl
          have hg9 := hU9.gr (Nat.le_refl _) (gr_alloc hg8 (.cells #[.string (X)] 9))
          go_wp2_with fail
          go_meet
          exact ⟨A9, c9, by rw [hln], hcap', hO9'.sl.mono (Nat.zero_le _), hg9⟩
      case rest =>
      obtain ⟨A8, c8, rfl, hc8, hS8, hg9⟩ := hcut
      rename World => w9
      clear hwsb hjm
      have hgw9 : wr.grownBy w9 none := hg7.t hg9
      have hJn := kitJoin_any A8 c8 WS w9 hS8 hxl.out.2 hc8 (by have := hxl.out.1; omega) (by have := hjl.out; omega)
      rw [hev.out] at hJn
      have hjs : (mkB (evLine d ++ [10])).size ≤ 200 := by rw [mkB_size, List.length_append]; simp; omega
      obtain ⟨J, hJ⟩ : ∃ J, mkB (evLine d ++ [10]) = J := ⟨_, rfl⟩
      have hJd : Hid (J.data.toList = evLine d ++ [10]) := by rw [Hid, ← hJ, mkB_data]
      rw [hJ] at hJn hjs
      clear hJ hO8 hb8 hb7 b3 b4 hS8
      go_wp2_with fail
      refine hJn.mono ?_
      rintro e w10 ⟨rfl, hg10⟩
      clear hJn
      have hW26 : wr.grownBy w10 none := hgw9.t hg10
      go_wp2_with fail
      refine (writeString_any x5 x5 _ J w10 (hB.gr hW26) (by omega) (by have := (hgj.t hW26).size; omega)).mono ?_
      rintro e w27 ⟨rfl, hB27, hb27, hk27⟩
      have hgw27 := gr_bld (hgj.t hW26) hb27 hx5.out
      have hB28 : Bld w27 x5 x5 (evText (l.take (k + 1))) := by rw [hsn.out]; rw [hJd.out] at hB27; exact hB27
      clear hB27 hb27 hk27
      go_wp2_with fail
      (go_roundw; (case rel => exact ⟨k + 1, by omega, by go_num, hB28, hgw27⟩); (case measure => simp [intOf]; omega))
    · obtain rfl : k = l.length := by omega
      rw [List.take_length] at hB
      have hszz := hsz.out
      have hgs := hgj.size
      have hLn := bldLen_any x5 x5 _ wr hB
      have hSt := bldString_any x5 x5 _ wr hB (by omega)
      obtain ⟨TX, hTX⟩ : ∃ t, evText l = t := ⟨_, rfl⟩
      rw [hTX] at hLn hSt hszz
      clear hB
      have hgt : decide ((TX.length : Int) > 200000) = false := by simp; omega
      replace hTX := hide hTX
      go_wp2_with fail
      refine hLn.mono ?_
      rintro e w2 ⟨rfl, rfl⟩
      clear hLn
      go_wp2_with fail
      refine hSt.mono ?_
      rintro e w3 ⟨rfl, hb3⟩
      clear hSt
      go_wp2_with fail
      go_ret2
      rw [hTX.out]
      exact ⟨rfl, hg1.t (gr_bld hgj hb3 hx5.out)⟩

end Go.Proofs.YtfleljmmfkkkpaaGreatDoor

namespace Go.Proofs.YtfleljmmfkkkpaaGreatDoor
open Go Go.RowKit Go.Bl

theorem evLines_len {l : List Ev} (h : ∀ d ∈ l, EvOk d) (k : Nat) : (evText (l.take k)).length ≤ (evText l).length := evText_pre l k

set_option maxHeartbeats 4000000 in
set_option maxRecDepth 100000 in
theorem evLines_any (A : Option Addr) (c : Nat) (l : List Ev) (w : World) (hl : Sl w 0 A l) (hall0 : ∀ d ∈ l, EvOk d) (hsz : (evText l).length ≤ 200000) (hT : Tab w) :
    Calls Tryz.prog 21 #[.slice A l.length c] w fun e w' => e = .returned (.string (mkB (evText l))) ∧ w.grownBy w' none := by
  have hm1 := hl.1
  unfold maxLen at hm1
  have hall := hide hall0
  clear hall0
  replace hsz := hide hsz
  go_enter Tryz.func21, Tryz.ntmps21
  go_upto_region 2 with fail
  obtain ⟨w3, hw3⟩ : ∃ x, x = (w).alloc (.cells #[.pointer none, .slice none 0 0] 49) := ⟨_, rfl⟩
  have hB3 : Bld w3 (w).heap.size (w).heap.size [] := by rw [hw3]; exact Bld.new _ _ (Nat.le_refl _)
  have hgb3 : (w).grownBy w3 none := by rw [hw3]; exact gr_alloc (World.grownBy.refl _ _) _
  rw [← hw3]
  clear hw3
  obtain ⟨x3, hx3⟩ : ∃ x, x = (w).heap.size := ⟨_, rfl⟩
  rw [← hx3] at hB3 ⊢
  have hxg3 : x3 ≤ (w).heap.size := Nat.le_of_eq hx3
  replace hx3 := hide hx3
  go_wp2_with fail
  go_loopw [10] (fun i wr => ∃ k : Nat, k ≤ l.length ∧ i = .int .i64 k ∧ Bld wr x3 x3 (evText (l.take k)) ∧ w.grownBy wr none) (fun i _ => l.length - (intOf i).toNat)
  case atStart => exact ⟨0, Nat.zero_le _, rfl, hB3, hgb3⟩
  case round =>
    clear hB3 hgb3
    obtain ⟨k, hk, rfl, hB, hgwr⟩ := hrel
    by_cases hlt : k < l.length
    · obtain ⟨g, o, cx, rfl, hb0, hb1, rfl, hc⟩ := hl.at_ (by decide) hlt
      have c0 : wr.cell? ⟨g, o + k * 5, none⟩ = some (.int .i64 l[k].at_) := hgwr.k (hc 0 _ rfl)
      have c1 : wr.cell? ⟨g, o + k * 5 + 1, none⟩ = some (.int .i64 l[k].kind) := hgwr.k (hc 1 _ rfl)
      have c2 : wr.cell? ⟨g, o + k * 5 + 2, none⟩ = some (.string l[k].pr) := hgwr.k (hc 2 _ rfl)
      have c3 : wr.cell? ⟨g, o + k * 5 + 3, none⟩ = some (.string l[k].job) := hgwr.k (hc 3 _ rfl)
      have c4 : wr.cell? ⟨g, o + k * 5 + 4, none⟩ = some (.string l[k].mat) := hgwr.k (hc 4 _ rfl)
      clear hc
      have hok := hall.out _ (List.getElem_mem hlt)
      have hsn := hide (evText_snoc hlt)
      have hpl : (evText (l.take k)).length ≤ 200000 := Nat.le_trans (evText_pre l k) hsz.out
      generalize l[k] = d at *
      have hdl := evLine_len hok
      have h1 := hok.at1
      have hx : -9223372036854775808 ≤ d.at_ ∧ d.at_ ≤ 9223372036854775807 := by omega
      obtain ⟨kn, hkn, hk7, hkw⟩ := kwB_at hok.kd
      have hwd : Hid ((evWsB d).map (·.data.toList) = evWords d) := evWsB_data d
      have hjm := jm_emp d
      obtain ⟨zj, zm⟩ := evOk_sz hok
      have hwsb : evWsB d = [mkB (Lib.itoa d.at_), d.pr, mkB (kw d.kind)] ++ (if xtra d = [] then [] else [d.job ++ d.mat]) := rfl
      rw [hkn] at c1
      generalize mkB (kw d.kind) = KW at *
      have hxl : Hid ((evWsB d).length ≤ 4 ∧ evWsB d ≠ []) := by rw [Hid, hwsb]; constructor <;> (split <;> simp)
      have hjl : Hid ((joined ((evWsB d).map (·.data.toList))).length ≤ 164) := by rw [Hid, hwd.out]; exact hdl
      have hev : Hid (joined ((evWsB d).map (·.data.toList)) = evLine d) := by rw [Hid, hwd.out]; rfl
      clear hok h1 hwd
      have hTr : Tab wr := hT.gr hgwr
      obtain ⟨WS, hWS⟩ : ∃ x, evWsB d = x := ⟨_, rfl⟩
      rw [hWS] at hwsb hxl hjl hev
      clear hWS
      go_upto_region 5 with fail
      obtain ⟨w5, hw5⟩ : ∃ x, x = (wr).alloc (.cells [.int .i64 d.at_, .int .i64 (kn : Int), .string d.pr, .string d.job, .string d.mat].toArray 37) := ⟨_, rfl⟩
      have hg5 : (wr).grownBy w5 none := by rw [hw5]; exact gr_alloc (World.grownBy.refl _ _) _
      have hb5 : Box w5 (wr).heap.size 37 [.int .i64 d.at_, .int .i64 (kn : Int), .string d.pr, .string d.job, .string d.mat] := by rw [hw5]; exact Box.new _ _ _
      have hxs5 := hb5.lt
      rw [← hw5]
      clear hw5
      obtain ⟨x5, hx5⟩ : ∃ x, x = (wr).heap.size := ⟨_, rfl⟩
      rw [← hx5] at hb5 hxs5 ⊢
      have hxl5 : (wr).heap.size ≤ x5 := by omega
      clear hx5
      go_cut [6] from 14 to 24 (fun s8 wx => ∃ g8, s8 = .slice (some ⟨g8, 0, none⟩) 3 3 ∧ Own wx w5.heap.size 9 (some ⟨g8, 0, none⟩) 3 [mkB (Lib.itoa d.at_), d.pr, KW] ∧ w5.grownBy wx none)
      case first =>
        obtain ⟨b0, _⟩ := hb5.c 0 rfl
        obtain ⟨b1, _⟩ := hb5.c 1 rfl
        obtain ⟨b2, _⟩ := hb5.c 2 rfl
        clear c0 c1 c2 c3 c4
        have hk0 : (0 : Int) ≤ (kn : Int) ∧ (kn : Int) < 7 := by omega
        refine wp_region_tree (fun wx => w5.grownBy wx none) [2, 1, 0, 2, 1, 0, 2, 1, 2, 0, 0, 2] (.bl 0 (.bl 1 (.bl 3 (.bl 4 (.bl 6 (.bl 7 (.ef 2 (.ef 5 (.bl 8 (.ef 9 (.ef 10 (.bl 11 .done)))))))))))) (by kernel_rfl) (by kernel_rfl) (gr_drew (World.grownBy.refl _ _)) ?_
        obtain ⟨W1, hW1⟩ : ∃ x, x = (w5).drew := ⟨_, rfl⟩
        rw [← hW1]
        have hgW1 : (w5).grownBy W1 none := by rw [hW1]; exact gr_drew (World.grownBy.refl _ _)
        clear hW1
        refine tree_p rfl rfl rfl rfl _ rfl (by simp) (fun K hK => ?_)
        apply Exists.intro
        refine ⟨fun wq K' hK' => ?_, ?_⟩
        · go_wp2_with fail
          exact hK'
        go_simp
        refine hK _ ?_
        clear hK K
        refine tree_b rfl rfl rfl rfl _ rfl (by simp) (fun K hK => ?_)
        apply Exists.intro
        refine ⟨fun wq hq K' hK' => ?_, ?_⟩
        · have y0 := hq.k b0
          have y1 := hq.k b1
          have y2 := hq.k b2
          go_wp2_with fail
          exact hK'
        go_simp
        refine hK _ ?_
        clear hK K
        refine tree_p rfl rfl rfl rfl _ rfl (by simp) (fun K hK => ?_)
        apply Exists.intro
        refine ⟨fun wq K' hK' => ?_, ?_⟩
        · go_wp2_with fail
          exact hK'
        go_simp
        refine hK _ ?_
        clear hK K
        refine tree_b rfl rfl rfl rfl _ rfl (by simp) (fun K hK => ?_)
        apply Exists.intro
        refine ⟨fun wq hq K' hK' => ?_, ?_⟩
        · have y0 := hq.k b0
          have y1 := hq.k b1
          have y2 := hq.k b2
          go_wp2_with fail
          exact hK'
        go_simp
        refine hK _ ?_
        clear hK K
        refine tree_p rfl rfl rfl rfl _ rfl (by simp) (fun K hK => ?_)
        apply Exists.intro
        refine ⟨fun wq K' hK' => ?_, ?_⟩
        · go_wp2_with fail
          exact hK'
        go_simp
        refine hK _ ?_
        clear hK K
        refine tree_b rfl rfl rfl rfl _ rfl (by simp) (fun K hK => ?_)
        apply Exists.intro
        refine ⟨fun wq hq K' hK' => ?_, ?_⟩
        · have y0 := hq.k b0
          have y1 := hq.k b1
          have y2 := hq.k b2
          go_wp2_with fail
          exact hK'
        go_simp
        refine hK _ ?_
        clear hK K
        refine tree_e rfl rfl (fun K hK => ?_)
        go_wp2_with fail
        refine (itoa_any d.at_ W1 hx (hTr.gr (hg5.t (gr_trans hgW1 (World.grownBy.refl _ _))))).mono ?_
        rintro e w23 ⟨rfl, hg2⟩
        have hW23 : w5.grownBy w23 none := gr_trans (gr_trans hgW1 (World.grownBy.refl _ _)) hg2
        go_wp2_with fail
        try go_simp
        refine hK _ _ (hW23) ?_
        clear hK K
        refine tree_e rfl rfl (fun K hK => ?_)
        go_wp2_with fail
        refine (eventWords_any w23).mono ?_
        rintro e w26 ⟨gq5, rfl, hkq5, hgq5⟩
        have hW26 : w5.grownBy w26 none := gr_trans (gr_trans hgW1 hg2) hgq5
        have hcq5 : w26.cell? ⟨gq5, kn, none⟩ = some (.string KW) := by have := strs_cells hkq5 kn KW hkw; rwa [Nat.zero_add] at this
        go_wp2_with fail
        try go_simp
        refine hK _ _ (hW26) ?_
        clear hK K
        refine tree_p rfl rfl rfl rfl _ rfl (by simp) (fun K hK => ?_)
        apply Exists.intro
        refine ⟨fun wq K' hK' => ?_, ?_⟩
        · go_wp2_with fail
          exact hK'
        go_simp
        refine hK _ ?_
        clear hK K
        refine tree_e rfl rfl (fun K hK => ?_)
        go_wp2_with fail
        try go_simp
        refine hK _ _ (hW26) ?_
        clear hK K
        refine tree_e0 (by kernel_rfl) rfl rfl (fun K hK => ?_)
        go_wp2_with fail
        try go_simp
        refine hK _ _ trivial ?_
        clear hK K
        refine tree_p rfl rfl rfl rfl _ rfl (by simp) (fun K hK => ?_)
        apply Exists.intro
        refine ⟨fun wq K' hK' => ?_, ?_⟩
        · go_wp2_with fail
          exact hK'
        go_simp
        refine hK _ ?_
        clear hK K
        refine tree_done ?_
        go_wp2_with fail
        go_meet
        exact ⟨_, rfl, own_strs _ _ 9 [mkB (Lib.itoa d.at_), d.pr, KW] _ 3 (by first | rfl | simp) rfl hW26.size (by simp [maxLen]), gr_alloc hW26 _⟩
      case rest =>
      obtain ⟨g8, rfl, hO8, hg8⟩ := hcut
      rename World => w8
      have hb8 := hb5.pure hg8
      obtain ⟨b3, _⟩ := hb8.c 3 rfl
      obtain ⟨b4, _⟩ := hb8.c 4 rfl
      have hgw8 := hg5.t hg8
      have hbase := hg8.size
      clear c0 c1 c2 c3 c4 hkw
      go_upto_region 7 with fail
      generalize hX : d.job ++ d.mat = X at *
      replace hX := hide hX
      obtain ⟨B, hBB⟩ : ∃ B, decide (xtra d = []) = B := ⟨_, rfl⟩
      rw [hBB] at hjm
      replace hBB := hide hBB
      replace hwsb := hide hwsb
      go_upto_if 31 with fail
      go_cut [6] (fun s8 wx => ∃ A8 c8, s8 = .slice A8 WS.length c8 ∧ WS.length ≤ c8 ∧ Sl wx 0 A8 WS ∧ w5.grownBy wx none)
      case first =>
        cases B with
        | true =>
          have hsl : Sl w8 0 (some ⟨g8, 0, none⟩) WS ∧ WS.length = 3 := by
            have e := hwsb.out
            rw [if_pos (of_decide_eq_true hBB.out), List.append_nil] at e
            rw [e]; exact ⟨hO8.sl.mono (Nat.zero_le _), rfl⟩
          replace hsl := hide hsl
          go_wp2_with fail
          go_meet
          exact ⟨some ⟨g8, 0, none⟩, 3, by rw [hsl.out.2], by rw [hsl.out.2]; exact Nat.le_refl _, hsl.out.1, hg8⟩
        | false =>
          have hwse : Hid (WS = [mkB (Lib.itoa d.at_), d.pr, KW] ++ [X]) := by
            have e := hwsb.out
            rw [if_neg (of_decide_eq_false hBB.out)] at e
            exact e
          obtain ⟨i0, hi, hz, hi1, hi2⟩ := info_parts info_strE
          go_wp2_with (at_builtin; refine wpList_push (α := ByteArray) _ rfl (.tmp 32) (.tmp 34) _ rfl w5.heap.size 9 i0 _ 16 Tryz.underlying51 hi hz hi1 hi2 rfl _ _ _ [mkB (Lib.itoa d.at_), d.pr, KW] rfl ?c1 (by exact hO8.pure (gr_alloc (World.grownBy.refl _ _) _)) 0 ⟨_, 0, none⟩ 1 1 [X] rfl rfl (by exact sl_oneAt _ 0 [.string (X)] _ _ _ (by first | rfl | simp) (Nat.zero_le _) rfl) ?c2 ?c3 ?c4 ?_)
          case c1 => rfl
          case c2 => simp
          case c3 => simp [maxLen]
          case c4 => simp; omega
          intro A9 c9 w9 hO9 hU9
          have hcap := hO9.cap
          have hwe : [mkB (Lib.itoa d.at_), d.pr, KW, X] = WS := by rw [hwse.out]; rfl
          have hO9' : Own w9 w5.heap.size 9 A9 c9 WS := by rw [← hwe]; exact hO9
          have hcap' : WS.length ≤ c9 := by rw [← hwe]; exact hcap
          have hln : WS.length = 4 := by rw [hwse.out]; rfl
          have hg9 := hU9.gr (Nat.le_refl _) (gr_alloc hg8 (.cells #[.string (X)] 9))
          go_wp2_with fail
          go_meet
          exact ⟨A9, c9, by rw [hln], hcap', hO9'.sl.mono (Nat.zero_le _), hg9⟩
      case rest =>
      obtain ⟨A8, c8, rfl, hc8, hS8, hg9⟩ := hcut
      rename World => w9
      clear hwsb hjm
      have hgw9 : wr.grownBy w9 none := hg5.t hg9
      obtain ⟨g9, o9, hA9, -, hb9⟩ := Sl.cells hS8 hxl.out.2 (by decide)
      subst hA9
      have hJn := Tryz.strings_Join g9 o9 c8 WS ⟨#[32]⟩ w9 (strs_cells hS8) hb9 (by have := hxl.out.1; omega) hc8 (by rw [show (⟨#[32]⟩ : ByteArray).data.toList = [32] from rfl, joined_lib]; have := hjl.out; omega)
      rw [show (⟨#[32]⟩ : ByteArray).data.toList = [32] from rfl, joined_lib, hev.out] at hJn
      have hcat : mkB (evLine d) ++ mkB [10] = mkB (evLine d ++ [10]) := mkB_append _ _
      have hjs : (mkB (evLine d)).size ≤ 200 := by rw [mkB_size]; omega
      have hjs2 : (mkB (evLine d ++ [10])).size ≤ 200 := by rw [mkB_size, List.length_append]; simp; omega
      obtain ⟨J, hJ⟩ : ∃ J, mkB (evLine d) = J := ⟨_, rfl⟩
      have hJd : Hid ((mkB (evLine d ++ [10])).data.toList = evLine d ++ [10]) := by rw [Hid, mkB_data]
      have hcat2 : Hid (J ++ ⟨#[10]⟩ = mkB (evLine d ++ [10])) := by rw [Hid, ← hJ]; exact hcat
      have hJn' : Calls Tryz.prog 44 #[.slice (some ⟨g9, o9, none⟩) WS.length c8, .string ⟨#[32]⟩] w9 fun e w' => e = .returned (.string J) ∧ w9.grownBy w' none := by
        refine hJn.mono ?_
        rintro e w' ⟨rfl, hb⟩
        exact ⟨by rw [← hJ]; rfl, gr_below hb⟩
      rw [hJ] at hjs
      clear hJ hJn hcat hO8 hb8 hb5 b3 b4 hS8
      go_wp2_with fail
      refine hJn'.mono ?_
      rintro e w10 ⟨rfl, hg10⟩
      have hW26 : wr.grownBy w10 none := hgw9.t hg10
      go_wp2_with fail
      have hcat3 := hcat2.out
      obtain ⟨SS, hSe⟩ : ∃ S, J ++ (⟨#[10]⟩ : ByteArray) = S := ⟨_, rfl⟩
      rw [hSe] at hcat3 ⊢
      have hss : SS.size ≤ 200 := by rw [hcat3]; exact hjs2
      have hsd : Hid (SS.data.toList = evLine d ++ [10]) := by rw [Hid, hcat3]; exact hJd.out
      clear hcat3 hSe hcat2 hJd hjs2 hjs
      refine (writeString_any x3 x3 _ SS w10 (hB.gr hW26) (by omega) (by have := (hgwr.t hW26).size; omega)).mono ?_
      rintro e w27 ⟨rfl, hB27, hb27, hk27⟩
      have hgw27 := gr_bld (hgwr.t hW26) hb27 hx3.out
      have hB28 : Bld w27 x3 x3 (evText (l.take (k + 1))) := by rw [hsn.out]; rw [hsd.out] at hB27; exact hB27
      clear hB27 hb27 hk27
      go_wp2_with fail
      (go_roundw; (case rel => exact ⟨k + 1, by omega, by go_num, hB28, hgw27⟩); (case measure => simp [intOf]; omega))
    · obtain rfl : k = l.length := by omega
      rw [List.take_length] at hB
      have hgs := hgwr.size
      have hSt := bldString_any x3 x3 _ wr hB (by omega)
      clear hB
      go_wp2_with fail
      refine hSt.mono ?_
      rintro e w3 ⟨rfl, hb3⟩
      clear hSt
      go_wp2_with fail
      go_ret
      exact ⟨rfl, gr_bld hgwr hb3 hx3.out⟩

end Go.Proofs.YtfleljmmfkkkpaaGreatDoor

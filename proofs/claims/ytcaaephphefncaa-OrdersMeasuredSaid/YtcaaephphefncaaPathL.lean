/- Contracts of functions that this seat's laws reach, each: what one call returns and what it leaves in memory; no condition beyond each theorem's own hypotheses. -/
import Derived.Test.YtcaaephphefncaaPathB
set_option linter.unusedVariables false
set_option linter.unusedSimpArgs false
namespace Go.Proofs.Ytcaaephphefncaa
open Go.RowKit Go.Bl

def SInts (b : Nat) (N : Int) (n : Nat) (w : World) (e : Ending) (w' : World) : Prop := ∃ (l : List Int) (A : Option Addr) (c : Nat), e = .returned (.slice A l.length c) ∧ Own w' w.heap.size 3 A c l ∧ l.length = n ∧ SOut b N w w'

set_option maxHeartbeats 2000000 in
set_option maxRecDepth 100000 in
theorem order_any (b : Nat) (N : Int) (n : Nat) (w : World) (hs : Strm w b N) (hN : N ≤ 1000000000) (hn : n ≤ 1000000) :
    Calls Try.prog 40 #[.pointer (some ⟨b, 0, none⟩), .int .i64 n] w (SInts b (N + n) n w) := by
  have hbw := hs.lt
  obtain ⟨i0, hi, hz, h1, h2⟩ := info_parts info_int
  go_enter Try.func40, Try.ntmps40
  go_wp2_with fail
  go_loopw [5, 10] (fun o i wr => ∃ (k : Nat) (l : List Int) (A' : Option Addr) (c' : Nat), k ≤ n ∧ i = .int .i64 k ∧ o = .slice A' l.length c' ∧ Hid (l.length = k) ∧ Own wr w.heap.size 3 A' c' l ∧ w.grownBy wr none) (fun _ i _ => n - (intOf i).toNat)
  case atStart => exact ⟨0, [], none, 0, Nat.zero_le _, rfl, rfl, rfl, Own.nil _ _ _, World.grownBy.refl _ _⟩
  case round =>
    obtain ⟨k, l, A', c', hk, rfl, rfl, hlk, hown, hg⟩ := hrel
    by_cases hlt : k < n
    · go_wp2_with (at_builtin; refine wpList_push (α := Int) _ rfl (.tmp 13) (.tmp 15) _ rfl w.heap.size 3 i0 _ 8 Try.underlying22 hi hz h1 h2 rfl _ _ _ l rfl ?c1 (by exact (hown.pure (by repeat (first | exact World.grownBy.refl _ _ | assumption | refine gr_alloc ?_ _ | refine gr_drewN ?_ _ | refine gr_drew ?_)))) 0 ⟨_, 0, none⟩ 1 1 [(k : Int)] rfl rfl (by exact sl_int1 _ _ _ _ (by first | rfl | simp)) ?c2 ?c3 ?c4 ?_)
      case c1 => rfl
      case c2 => rw [hlk.out]; simp; omega
      case c3 => rw [hlk.out]; simp [maxLen]; omega
      case c4 => simp; have := hg.size; omega
      intro A2 c2 w2 hown2 hup2
      go_wp2
      (go_roundw; (case rel => exact ⟨k + 1, _, A2, c2, by omega, by go_num, by simp, by simp [Hid, hlk.out], hown2, hup2.gr (Nat.le_refl _) (gr_alloc hg _)⟩); (case measure => simp [intOf]; omega))
    · have hkn : k = n := by omega
      have hln : Hid (l.length = n) := by rw [Hid, hlk.out, hkn]
      have hs2 := hs.pure hg
      have hgs : SOut b N w wr := ⟨gr_any hg, hs2⟩
      clear hkn hlk hs2
      rename World => wq
      go_wp2_with fail
      by_cases h0 : n = 0
      · subst h0
        refine wp_loop_once ?_
        go_wp2_with fail
        go_ret
        exact ⟨l, A', c', rfl, hown, hln.out, hgs.mono (by simp)⟩
      · obtain ⟨g, rfl, hgl, hgs2⟩ := hown.shape (by rw [hln.out]; omega)
        go_loopw [7] (fun i wr => ∃ (j : Nat) (m : List Int), i = .int .i64 j ∧ j + 1 ≤ n ∧ Hid (m.length = n) ∧ Own wr w.heap.size 3 (some ⟨g, 0, none⟩) c' m ∧ SOut b (N + (n - 1 - j)) w wr) (fun i _ => (intOf i).toNat)
        case atStart => exact ⟨n - 1, l, by congr 1; omega, by omega, hln, hown, hgs.mono (by omega)⟩
        case round =>
          obtain ⟨j, m, rfl, hj, hml, hown, hS⟩ := hrel
          by_cases hj0 : 0 < j
          · go_wp2_with fail
            refine (next_any b _ _ _ hS.2 (by omega) (by omega)).mono ?_
            rintro e w2 ⟨r, rfl, ⟨hr0, hr1⟩, ho2⟩
            obtain ⟨r, rfl⟩ := Int.eq_ofNat_of_zero_le hr0
            have hown2 := hown.s ho2 hbw
            have hjm : j < m.length := by rw [hml.out]; omega
            have hrm : r < m.length := by rw [hml.out]; omega
            have hjl : j < l.length := by rw [hln.out]; omega
            have hrl : r < l.length := by rw [hln.out]; omega
            have c0 := hown2.cell_int hjm
            have c1 := hown2.cell_int hrm
            have f0 := hown2.frozen j
            have f1 := hown2.frozen r
            have hset := (hown2.set_int j m[r]).set_int r m[j]
            have hset := hide hset
            have hS2 := hS.trans ho2
            have hml2 : Hid (((m.set j m[r]).set r m[j]).length = n) := by simp [Hid, hml.out]
            by_cases hrj : r = j
            · subst hrj
              go_wp2_with fail
              go_region
              all_goals
                go_wp2
                go_roundw
                case rel => exact ⟨r - 1, _, by congr 1; omega, by omega, hml2, hset.out.pure (gr_drew (World.grownBy.refl _ _)), ((hS2.set hbw hgl _).set hbw hgl _).drew.mono (by omega)⟩
                case measure => simp [intOf]; omega
            · have hjr : j ≠ r := fun e => hrj e.symm
              go_wp2_with fail
              go_region
              all_goals
                go_wp2
                go_roundw
                case rel => exact ⟨j - 1, _, by congr 1; omega, by omega, hml2, hset.out.pure (gr_drew (World.grownBy.refl _ _)), ((hS2.set hbw hgl _).set hbw hgl _).drew.mono (by omega)⟩
                case measure => simp [intOf]; omega
          · have hj2 : j = 0 := by omega
            subst hj2
            go_wp2_with fail
            go_ret
            exact ⟨m, _, c', by rw [hml.out, ← hln.out]; exact rfl, hown, hml.out, hS.mono (by omega)⟩

def SVis (b : Nat) (N : Int) (w : World) (e : Ending) (w' : World) : Prop := ∃ v : Vis, e = .returned (.agg #[.int .i64 v.path, .int .i64 v.start, .bool v.back]) ∧ SOut b N w w'

/-- the world while a visit is changed -/
def VMid (b gp lo : Nat) (N : Int) (W : World) (_ : Nat → Bool) (k : Nat) (w : World) : Prop :=
  SOut b (N + k) W w ∧ (∃ x y z, Cell w gp 0 (.int .i64 x) ∧ Cell w gp 1 (.int .i64 y) ∧ Cell w gp 2 (.bool z)) ∧ lo ≤ w.heap.size ∧ Cell w W.heap.size 0 (.int .i64 0) ∧ Cell w W.heap.size 1 (.int .i64 0) ∧ Cell w W.heap.size 2 (.bool false)
theorem VMid.al {b gp lo : Nat} {N : Int} {W : World} {m : Nat → Bool} {k : Nat} {w : World} (h : VMid b gp lo N W m k w) (o : Obj) : VMid b gp lo N W m k (w.alloc o) := by
  obtain ⟨h1, ⟨x, y, z, h2, h3, h4⟩, h5, h6, h7, h8⟩ := h
  have hg := gr_alloc (r := none) (World.grownBy.refl w none) o
  exact ⟨h1.al o, ⟨x, y, z, h2.gr hg (by simp), h3.gr hg (by simp), h4.gr hg (by simp)⟩, by simp; omega, h6.gr hg (by simp), h7.gr hg (by simp), h8.gr hg (by simp)⟩
theorem VMid.st {b gp lo : Nat} {N : Int} {W : World} {m m' : Nat → Bool} {k : Nat} {w w' : World} (h : VMid b gp lo N W m k w) (hb : b < gp ∧ b < W.heap.size) (k' : Nat) (hs : SOut b (N + k + k') w w') : VMid b gp lo N W m' (k + k') w' := by
  obtain ⟨h1, ⟨x, y, z, h2, h3, h4⟩, h5, h6, h7, h8⟩ := h
  exact ⟨(h1.trans hs).mono (by simp; omega), ⟨x, y, z, h2.gr hs.1 (by simp; omega), h3.gr hs.1 (by simp; omega), h4.gr hs.1 (by simp; omega)⟩, by have := hs.size; omega, h6.gr hs.1 (by simp; omega), h7.gr hs.1 (by simp; omega), h8.gr hs.1 (by simp; omega)⟩

/-- a visit under way: its box, and that of the result -/
def AVI (b : Nat) (N : Int) (w wx : World) : Prop := SOut b N w wx ∧ (Cell wx w.heap.size 0 (.int .i64 0) ∧ Cell wx w.heap.size 1 (.int .i64 0) ∧ Cell wx w.heap.size 2 (.bool false)) ∧ ∃ x y z, Cell wx (w.heap.size + 1) 0 (.int .i64 x) ∧ Cell wx (w.heap.size + 1) 1 (.int .i64 y) ∧ Cell wx (w.heap.size + 1) 2 (.bool z)

set_option maxHeartbeats 2000000 in
set_option maxRecDepth 100000 in
theorem aVisit_any (b : Nat) (N : Int) (A : Option Addr) (c : Nat) (l : List PathV) (i : Int) (w : World) (hs : Strm w b N) (hN : N ≤ 1000000000) (hl : Sl w (b + 1) A l) :
    Calls Try.prog 8 #[.pointer (some ⟨b, 0, none⟩), .slice A l.length c, .int .i64 i] w (SVis b (N + 10) w) := by
  have hbw := hs.lt
  have hm := hl.1
  unfold maxLen at hm
  have hg0 := gr_alloc (r := none) (World.grownBy.refl w none) (.cells #[.int .i64 0, .int .i64 0, .bool false] 34)
  have hg1 := gr_alloc hg0 (.cells #[.int .i64 i, .int .i64 0, .bool false] 34)
  have hgA := gr_alloc (r := none) (World.grownBy.refl (w.alloc (.cells #[.int .i64 0, .int .i64 0, .bool false] 34)) none) (.cells #[.int .i64 i, .int .i64 0, .bool false] 34)
  have K0 := (Cell.new w [.int .i64 0, .int .i64 0, .bool false] 34 0 _ rfl _ rfl).gr hgA (by simp)
  have K1 := (Cell.new w [.int .i64 0, .int .i64 0, .bool false] 34 1 _ rfl _ rfl).gr hgA (by simp)
  have K2 := (Cell.new w [.int .i64 0, .int .i64 0, .bool false] 34 2 _ rfl _ rfl).gr hgA (by simp)
  have J0 := Cell.new (w.alloc (.cells #[.int .i64 0, .int .i64 0, .bool false] 34)) [.int .i64 i, .int .i64 0, .bool false] 34 0 _ rfl (w.heap.size + 1) (by simp)
  have J1 := Cell.new (w.alloc (.cells #[.int .i64 0, .int .i64 0, .bool false] 34)) [.int .i64 i, .int .i64 0, .bool false] 34 1 _ rfl (w.heap.size + 1) (by simp)
  have J2 := Cell.new (w.alloc (.cells #[.int .i64 0, .int .i64 0, .bool false] 34)) [.int .i64 i, .int .i64 0, .bool false] 34 2 _ rfl (w.heap.size + 1) (by simp)
  have hs1 := hs.pure hg1
  have hl1 := hl.pure hg1
  have hS0 : SOut b (N + 1) w ((w.alloc (.cells #[.int .i64 0, .int .i64 0, .bool false] 34)).alloc (.cells #[.int .i64 i, .int .i64 0, .bool false] 34)) := ((SOut.refl hs).mono (by omega)).pure hg1
  by_cases hin : 0 ≤ i ∧ i < l.length
  · obtain ⟨hin1, hin2⟩ := hin
    go_enter Try.func8, Try.ntmps8
    go_upto_if 17 with fail
    go_cut [7] (fun s7 wx => s7 = .pointer (some ⟨w.heap.size + 1, 0, none⟩) ∧ AVI b (N + 1) w wx)
    case first =>
      obtain ⟨k, rfl⟩ := Int.eq_ofNat_of_zero_le hin1
      have hk : k < l.length := by omega
      obtain ⟨g, o, cx, rfl, hb0, hb1, ⟨A', c', rfl, hcp, hpts⟩, hc⟩ := hl1.at_ (by decide) hk
      have c0 := hc 0 _ rfl
      have c1 := hc 1 _ rfl
      rw [show Enc.sz PathV = 2 from rfl, Nat.add_zero] at c0
      rw [show Enc.sz PathV = 2 from rfl] at c1
      have hpm := hpts.1
      unfold maxLen at hpm
      clear hc
      generalize l[k] = p at *
      obtain ⟨pts, cl⟩ := p
      try simp only at c0 c1 hpts hpm hcp
      cases cl
      · go_wp2_with fail
        refine (flip_any b _ _ _ hs1 (by omega) (by omega)).mono ?_
        rintro e w2 ⟨f, rfl, ho2⟩
        have hS := ((SOut.refl hs).pure hg1).trans ho2
        replace K0 := K0.gr ho2.1 (by simp; omega)
        replace K1 := K1.gr ho2.1 (by simp; omega)
        replace K2 := K2.gr ho2.1 (by simp; omega)
        replace J0 := J0.gr ho2.1 (by simp; omega)
        replace J1 := J1.gr ho2.1 (by simp; omega)
        replace J2 := J2.gr ho2.1 (by simp; omega)
        obtain ⟨j2, jf2⟩ := id J2
        have hgw := gr_set (r := some (w.heap.size + 1)) (p := ⟨w.heap.size + 1, 2, none⟩) (World.grownBy.refl w2 _) (.inl rfl) (.bool f)
        go_wp2_with fail
        go_meet
        exact ⟨rfl, hS.set hbw (Nat.le_succ _) _, ⟨K0.gr hgw (by simp), K1.gr hgw (by simp), K2.gr hgw (by simp)⟩, _, _, _, J0.set_ne _ (by decide), J1.set_ne _ (by decide), J2.set_ _⟩
      · go_wp2_with fail
        refine (next0_any b _ _ _ hs1 (by omega) (by omega)).mono ?_
        rintro e w2 ⟨f, rfl, _, ho2⟩
        have hS := ((SOut.refl hs).pure hg1).trans ho2
        replace K0 := K0.gr ho2.1 (by simp; omega)
        replace K1 := K1.gr ho2.1 (by simp; omega)
        replace K2 := K2.gr ho2.1 (by simp; omega)
        replace J0 := J0.gr ho2.1 (by simp; omega)
        replace J1 := J1.gr ho2.1 (by simp; omega)
        replace J2 := J2.gr ho2.1 (by simp; omega)
        obtain ⟨j1, jf1⟩ := id J1
        have hgw := gr_set (r := some (w.heap.size + 1)) (p := ⟨w.heap.size + 1, 1, none⟩) (World.grownBy.refl w2 _) (.inl rfl) (.int .i64 f)
        go_wp2_with fail
        go_meet
        exact ⟨rfl, hS.set hbw (Nat.le_succ _) _, ⟨K0.gr hgw (by simp), K1.gr hgw (by simp), K2.gr hgw (by simp)⟩, _, _, _, J0.set_ne _ (by decide), J1.set_ _, J2.set_ne _ (by decide)⟩
    case rest =>
    obtain ⟨rfl, hS, ⟨K0', K1', K2'⟩, x, y, z, J0', J1', J2'⟩ := hcut
    clear K0 K1 K2 J0 J1 J2 hs1 hl1 hg0 hg1 hgA
    rename World => w1
    go_wp2_with fail
    refine (flip_any b _ _ _ hS.2 (by omega) (by omega)).mono ?_
    rintro e w2 ⟨f, rfl, ho2⟩
    have hG := hS.trans ho2
    have K0 := K0'.gr ho2.1 (by simp; omega)
    have K1 := K1'.gr ho2.1 (by simp; omega)
    have K2 := K2'.gr ho2.1 (by simp; omega)
    have J0 := J0'.gr ho2.1 (by simp; omega)
    have J1 := J1'.gr ho2.1 (by simp; omega)
    have J2 := J2'.gr ho2.1 (by simp; omega)
    clear K0' K1' K2' J0' J1' J2' hS ho2
    cases f
    · obtain ⟨k0, f0⟩ := K0
      obtain ⟨k1, f1⟩ := K1
      obtain ⟨k2, f2⟩ := K2
      obtain ⟨j0, -⟩ := J0
      obtain ⟨j1, -⟩ := J1
      obtain ⟨j2, -⟩ := J2
      go_wp2_with fail
      refine bodyPost_ret (v := .agg #[.int .i64 x, .int .i64 y, .bool z]) (by simp [results, Try.results8, go_sem, k0, k1, k2, f0, f1, f2]) rfl ⟨⟨x, y, z⟩, rfl, ?_⟩
      exact (((hG.mono (show _ ≤ N + 10 by omega)).set hbw (Nat.le_refl _) _).set hbw (Nat.le_refl _) _).set hbw (Nat.le_refl _) _
    · go_wp2_with fail
      obtain ⟨NN, hNN⟩ : ∃ NN : Int, NN = N + 1 + 1 := ⟨_, rfl⟩
      rw [← hNN] at hG
      have hNb : NN ≤ 1000000010 := by omega
      obtain ⟨lo, hlo⟩ : ∃ lo : Nat, lo = w2.heap.size := ⟨_, rfl⟩
      have hlow : lo ≤ w2.heap.size := by omega
      have hgl : w.heap.size + 1 < lo := by rw [hlo]; exact J0.lt
      have hW1 : ∀ g, (g = b ∨ g = w.heap.size + 1) → g < lo := fun g h => by rcases h with h | h <;> omega
      have hblo : b + 1 ≤ lo := by omega
      replace hlo := hide hlo
      replace hNN := hide hNN
      refine wp_region_minvF (VMid b (w.heap.size + 1) lo NN w) (fun _ => Wrt (fun g => g = b ∨ g = w.heap.size + 1)) [VIs (.pointer (some ⟨b, 0, none⟩)), VIs (.pointer (some ⟨w.heap.size + 1, 0, none⟩)), VInt, VIs (.slice A l.length c), VIs (.int .i64 l.length), VLit (α := Int) lo 4, VInt, VIs (.pointer (some ⟨b, 0, none⟩)), VIs (.pointer (some ⟨w.heap.size + 1, 1, none⟩)), VInt, VLit (α := Int) lo 4, VInt, VIs (.pointer (some ⟨b, 0, none⟩)), VBool, VIs (.pointer (some ⟨w.heap.size + 1, 0, none⟩)), (fun _ _ => True), VIs (.pointer (some ⟨w.heap.size + 1, 1, none⟩)), (fun _ _ => True), VIs (.pointer (some ⟨w.heap.size + 1, 2, none⟩)), (fun _ _ => True)]
        [0, 0, 0, 0, 0, 0, 1, 0, 0, 0, 0, 1, 0, 1, 0, 0, 0, 0, 0, 0] (by kernel_rfl) (by kernel_rfl) (by intro vs; simp only [putAll, Act.put, List.setIfInBounds_toArray, List.set_cons_zero, List.set_cons_succ, Nat.reduceAdd]; exact rfl) ?iv0 ?iv1 rfl ?iv2 ?iv3
      case iv0 =>
        have hg := gr_drew (r := none) (World.grownBy.refl w2 none)
        exact fun m _ => ⟨(hG.mono (by omega)).drew, ⟨_, _, _, J0.gr hg (by simp), J1.gr hg (by simp), J2.gr hg (by simp)⟩, hlow, K0.gr hg (by simp), K1.gr hg (by simp), K2.gr hg (by simp)⟩
      case iv1 =>
        exact Stab.ok ⟨fun m v w w' _ _ h => h, fun m v w w' _ _ h => h, fun m v w w' _ _ h => h, fun m v w w' _ _ h => h, fun m v w w' _ _ h => h, fun m v w w' _ hw h => h.stab hw hW1, fun m v w w' _ _ h => h, fun m v w w' _ _ h => h, fun m v w w' _ _ h => h, fun m v w w' _ _ h => h,
          fun m v w w' _ hw h => h.stab hw hW1, fun m v w w' _ _ h => h, fun m v w w' _ _ h => h, fun m v w w' _ _ h => h, fun m v w w' _ _ h => h, fun m v w w' _ _ h => h, fun m v w w' _ _ h => h, fun m v w w' _ _ h => h, fun m v w w' _ _ h => h, fun m v w w' _ _ h => h, trivial⟩
      case iv2 =>
        refine MOpsF.op (fun vs wx m k hmj hcl hI hk hf K hK => ?_) ?_
        · clear hf hcl
          replace hK := hide hK
          replace hI := hide hI
          go_wp2_with fail
          replace hK := hK.out (.pointer (some ⟨b, 0, none⟩))
          simp only [Act.put, List.setIfInBounds_toArray, List.set_cons_zero, List.set_cons_succ, Nat.add_zero] at hK
          exact hK _ (hI.out) (Wrt.pure (World.grownBy.refl _ _)) (rfl)
        refine MOpsF.op (fun vs wx m k hmj hcl hI hk hf K hK => ?_) ?_
        · clear hf hcl
          replace hK := hide hK
          replace hI := hide hI
          go_wp2_with fail
          replace hK := hK.out (.pointer (some ⟨w.heap.size + 1, 0, none⟩))
          simp only [Act.put, List.setIfInBounds_toArray, List.set_cons_zero, List.set_cons_succ, Nat.add_zero] at hK
          exact hK _ (hI.out) (Wrt.pure (World.grownBy.refl _ _)) (rfl)
        refine MOpsF.op (fun vs wx m k hmj hcl hI hk hf K hK => ?_) ?_
        · have e0 : vs 1 = .pointer (some ⟨w.heap.size + 1, 0, none⟩) := hf 1 (by decide) (by kernel_rfl)
          clear hf hcl
          have hI2 := hI
          obtain ⟨_, ⟨x', y', z', q0, q1, q2⟩, _, _⟩ := hI2
          have hq := (q0).1
          clear q0 q1 q2
          replace hK := hide hK
          replace hI := hide hI
          rw [e0]
          replace e0 := hide e0
          go_wp2_with fail
          replace hK := hK.out (.int .i64 x')
          simp only [Act.put, List.setIfInBounds_toArray, List.set_cons_zero, List.set_cons_succ, e0.out] at hK
          exact hK _ (hI.out) (Wrt.pure (World.grownBy.refl _ _)) (⟨_, rfl⟩)
        refine MOpsF.op (fun vs wx m k hmj hcl hI hk hf K hK => ?_) ?_
        · clear hf hcl
          replace hK := hide hK
          replace hI := hide hI
          go_wp2_with fail
          replace hK := hK.out (.slice A l.length c)
          simp only [Act.put, List.setIfInBounds_toArray, List.set_cons_zero, List.set_cons_succ, Nat.add_zero] at hK
          exact hK _ (hI.out) (Wrt.pure (World.grownBy.refl _ _)) (rfl)
        refine MOpsF.op (fun vs wx m k hmj hcl hI hk hf K hK => ?_) ?_
        · have e0 : vs 3 = .slice A l.length c := hf 3 (by decide) (by kernel_rfl)
          clear hf hcl
          replace hK := hide hK
          replace hI := hide hI
          rw [e0]
          replace e0 := hide e0
          go_wp2_with fail
          replace hK := hK.out (.int .i64 l.length)
          simp only [Act.put, List.setIfInBounds_toArray, List.set_cons_zero, List.set_cons_succ, e0.out] at hK
          exact hK _ (hI.out) (Wrt.pure (World.grownBy.refl _ _)) (rfl)
        refine MOpsF.op (fun vs wx m k hmj hcl hI hk hf K hK => ?_) ?_
        · obtain ⟨r0, e0⟩ := hf 2 (by decide) (by kernel_rfl)
          have e1 : vs 4 = .int .i64 l.length := hf 4 (by decide) (by kernel_rfl)
          clear hf hcl
          replace hK := hide hK
          rw [e0, e1]
          replace e0 := hide e0
          replace e1 := hide e1
          go_wp2_with fail
          replace hK := hK.out (.slice (some ⟨wx.heap.size, 0, none⟩) 4 4)
          simp only [Act.put, List.setIfInBounds_toArray, List.set_cons_zero, List.set_cons_succ, e0.out, e1.out] at hK
          exact hK _ ((hI.al _)) (Wrt.pure (gr_alloc (World.grownBy.refl _ _) _)) (⟨wx.heap.size, [r0, -1, l.length, 0], rfl, rfl, sl_intsAt _ _ _ _ _ rfl hI.2.2.1 (by simp [maxLen])⟩)
        refine MOpsF.op (fun vs wx m k hmj hcl hI hk hf K hK => ?_) ?_
        · obtain ⟨g, ll, e1, hll, hsl⟩ := hf 5 (by decide) (by kernel_rfl)
          have e0 : vs 0 = .pointer (some ⟨b, 0, none⟩) := hf 0 (by decide) (by kernel_rfl)
          clear hf hcl
          have hk2 : k + 1 ≤ 3 := hk
          clear hk
          replace hK := hide hK
          rw [e0, e1]
          replace e0 := hide e0
          replace e1 := hide e1
          go_wp2_with fail
          refine (pick_any b (NN + k) _ _ _ ll _ hI.1.2 (by omega) (hsl.mono (by omega)) hll (by simp)).mono ?_
          rintro e wy ⟨r, rfl, _, hoy⟩
          go_wp2_with fail
          replace hK := hK.out (.int .i64 r)
          simp only [Act.put, List.setIfInBounds_toArray, List.set_cons_zero, List.set_cons_succ, e0.out, e1.out] at hK
          exact hK _ ((hI.st ⟨by omega, hbw⟩ 1 hoy)) (Wrt.one hoy.1 (.inl rfl)) (⟨r, rfl⟩)
        refine MOpsF.op (fun vs wx m k hmj hcl hI hk hf K hK => ?_) ?_
        · clear hf hcl
          replace hK := hide hK
          replace hI := hide hI
          go_wp2_with fail
          replace hK := hK.out (.pointer (some ⟨b, 0, none⟩))
          simp only [Act.put, List.setIfInBounds_toArray, List.set_cons_zero, List.set_cons_succ, Nat.add_zero] at hK
          exact hK _ (hI.out) (Wrt.pure (World.grownBy.refl _ _)) (rfl)
        refine MOpsF.op (fun vs wx m k hmj hcl hI hk hf K hK => ?_) ?_
        · clear hf hcl
          replace hK := hide hK
          replace hI := hide hI
          go_wp2_with fail
          replace hK := hK.out (.pointer (some ⟨w.heap.size + 1, 1, none⟩))
          simp only [Act.put, List.setIfInBounds_toArray, List.set_cons_zero, List.set_cons_succ, Nat.add_zero] at hK
          exact hK _ (hI.out) (Wrt.pure (World.grownBy.refl _ _)) (rfl)
        refine MOpsF.op (fun vs wx m k hmj hcl hI hk hf K hK => ?_) ?_
        · have e0 : vs 8 = .pointer (some ⟨w.heap.size + 1, 1, none⟩) := hf 8 (by decide) (by kernel_rfl)
          clear hf hcl
          have hI2 := hI
          obtain ⟨_, ⟨x', y', z', q0, q1, q2⟩, _, _⟩ := hI2
          have hq := (q1).1
          clear q0 q1 q2
          replace hK := hide hK
          replace hI := hide hI
          rw [e0]
          replace e0 := hide e0
          go_wp2_with fail
          replace hK := hK.out (.int .i64 y')
          simp only [Act.put, List.setIfInBounds_toArray, List.set_cons_zero, List.set_cons_succ, e0.out] at hK
          exact hK _ (hI.out) (Wrt.pure (World.grownBy.refl _ _)) (⟨_, rfl⟩)
        refine MOpsF.op (fun vs wx m k hmj hcl hI hk hf K hK => ?_) ?_
        · obtain ⟨r0, e0⟩ := hf 9 (by decide) (by kernel_rfl)
          clear hf hcl
          replace hK := hide hK
          rw [e0]
          replace e0 := hide e0
          go_wp2_with fail
          replace hK := hK.out (.slice (some ⟨wx.heap.size, 0, none⟩) 4 4)
          simp only [Act.put, List.setIfInBounds_toArray, List.set_cons_zero, List.set_cons_succ, e0.out] at hK
          exact hK _ ((hI.al _)) (Wrt.pure (gr_alloc (World.grownBy.refl _ _) _)) (⟨wx.heap.size, [r0, 1, -1, 9], rfl, rfl, sl_intsAt _ _ _ _ _ rfl hI.2.2.1 (by simp [maxLen])⟩)
        refine MOpsF.op (fun vs wx m k hmj hcl hI hk hf K hK => ?_) ?_
        · obtain ⟨g, ll, e1, hll, hsl⟩ := hf 10 (by decide) (by kernel_rfl)
          have e0 : vs 7 = .pointer (some ⟨b, 0, none⟩) := hf 7 (by decide) (by kernel_rfl)
          clear hf hcl
          have hk2 : k + 1 ≤ 3 := hk
          clear hk
          replace hK := hide hK
          rw [e0, e1]
          replace e0 := hide e0
          replace e1 := hide e1
          go_wp2_with fail
          refine (pick_any b (NN + k) _ _ _ ll _ hI.1.2 (by omega) (hsl.mono (by omega)) hll (by simp)).mono ?_
          rintro e wy ⟨r, rfl, _, hoy⟩
          go_wp2_with fail
          replace hK := hK.out (.int .i64 r)
          simp only [Act.put, List.setIfInBounds_toArray, List.set_cons_zero, List.set_cons_succ, e0.out, e1.out] at hK
          exact hK _ ((hI.st ⟨by omega, hbw⟩ 1 hoy)) (Wrt.one hoy.1 (.inl rfl)) (⟨r, rfl⟩)
        refine MOpsF.op (fun vs wx m k hmj hcl hI hk hf K hK => ?_) ?_
        · clear hf hcl
          replace hK := hide hK
          replace hI := hide hI
          go_wp2_with fail
          replace hK := hK.out (.pointer (some ⟨b, 0, none⟩))
          simp only [Act.put, List.setIfInBounds_toArray, List.set_cons_zero, List.set_cons_succ, Nat.add_zero] at hK
          exact hK _ (hI.out) (Wrt.pure (World.grownBy.refl _ _)) (rfl)
        refine MOpsF.op (fun vs wx m k hmj hcl hI hk hf K hK => ?_) ?_
        · have e0 : vs 12 = .pointer (some ⟨b, 0, none⟩) := hf 12 (by decide) (by kernel_rfl)
          clear hf hcl
          have hk2 : k + 1 ≤ 3 := hk
          clear hk
          replace hK := hide hK
          rw [e0]
          replace e0 := hide e0
          go_wp2_with fail
          refine (flip_any b (NN + k) _ _ hI.1.2 (by omega) (by omega)).mono ?_
          rintro e wy ⟨r, rfl, hoy⟩
          go_wp2_with fail
          replace hK := hK.out (.bool r)
          simp only [Act.put, List.setIfInBounds_toArray, List.set_cons_zero, List.set_cons_succ, e0.out] at hK
          exact hK _ ((hI.st ⟨by omega, hbw⟩ 1 hoy)) (Wrt.one hoy.1 (.inl rfl)) (⟨r, rfl⟩)
        refine MOpsF.op (fun vs wx m k hmj hcl hI hk hf K hK => ?_) ?_
        · clear hf hcl
          replace hK := hide hK
          replace hI := hide hI
          go_wp2_with fail
          replace hK := hK.out (.pointer (some ⟨w.heap.size + 1, 0, none⟩))
          simp only [Act.put, List.setIfInBounds_toArray, List.set_cons_zero, List.set_cons_succ, Nat.add_zero] at hK
          exact hK _ (hI.out) (Wrt.pure (World.grownBy.refl _ _)) (rfl)
        refine MOpsF.op (fun vs wx m k hmj hcl hI hk hf K hK => ?_) ?_
        · obtain ⟨r, e0⟩ := hf 6 (by decide) (by kernel_rfl)
          have e1 : vs 14 = .pointer (some ⟨w.heap.size + 1, 0, none⟩) := hf 14 (by decide) (by kernel_rfl)
          clear hf hcl
          obtain ⟨a1, ⟨x', y', z', q0, q1, q2⟩, a3, a4, a5, a6⟩ := hI
          obtain ⟨hq, hqf⟩ := id q0
          have hgw := gr_set (r := some (w.heap.size + 1)) (p := ⟨w.heap.size + 1, 0, none⟩) (World.grownBy.refl wx _) (.inl rfl) (.int .i64 r)
          replace hK := hide hK
          rw [e0, e1]
          replace e0 := hide e0
          replace e1 := hide e1
          go_wp2_with fail
          replace hK := hK.out undef
          simp only [Act.put, List.setIfInBounds_toArray, List.set_cons_zero, List.set_cons_succ, e0.out, e1.out] at hK
          exact hK _ (⟨a1.set hbw (Nat.le_succ _) _, ⟨r, y', z', q0.set_ _, q1.set_ne _ (by decide), q2.set_ne _ (by decide)⟩, by rw [heap_set]; exact a3, a4.gr hgw (by simp), a5.gr hgw (by simp), a6.gr hgw (by simp)⟩) (Wrt.one hgw (.inr rfl)) (trivial)
        refine MOpsF.op (fun vs wx m k hmj hcl hI hk hf K hK => ?_) ?_
        · clear hf hcl
          replace hK := hide hK
          replace hI := hide hI
          go_wp2_with fail
          replace hK := hK.out (.pointer (some ⟨w.heap.size + 1, 1, none⟩))
          simp only [Act.put, List.setIfInBounds_toArray, List.set_cons_zero, List.set_cons_succ, Nat.add_zero] at hK
          exact hK _ (hI.out) (Wrt.pure (World.grownBy.refl _ _)) (rfl)
        refine MOpsF.op (fun vs wx m k hmj hcl hI hk hf K hK => ?_) ?_
        · obtain ⟨r, e0⟩ := hf 11 (by decide) (by kernel_rfl)
          have e1 : vs 16 = .pointer (some ⟨w.heap.size + 1, 1, none⟩) := hf 16 (by decide) (by kernel_rfl)
          clear hf hcl
          obtain ⟨a1, ⟨x', y', z', q0, q1, q2⟩, a3, a4, a5, a6⟩ := hI
          obtain ⟨hq, hqf⟩ := id q1
          have hgw := gr_set (r := some (w.heap.size + 1)) (p := ⟨w.heap.size + 1, 1, none⟩) (World.grownBy.refl wx _) (.inl rfl) (.int .i64 r)
          replace hK := hide hK
          rw [e0, e1]
          replace e0 := hide e0
          replace e1 := hide e1
          go_wp2_with fail
          replace hK := hK.out undef
          simp only [Act.put, List.setIfInBounds_toArray, List.set_cons_zero, List.set_cons_succ, e0.out, e1.out] at hK
          exact hK _ (⟨a1.set hbw (Nat.le_succ _) _, ⟨x', r, z', q0.set_ne _ (by decide), q1.set_ _, q2.set_ne _ (by decide)⟩, by rw [heap_set]; exact a3, a4.gr hgw (by simp), a5.gr hgw (by simp), a6.gr hgw (by simp)⟩) (Wrt.one hgw (.inr rfl)) (trivial)
        refine MOpsF.op (fun vs wx m k hmj hcl hI hk hf K hK => ?_) ?_
        · clear hf hcl
          replace hK := hide hK
          replace hI := hide hI
          go_wp2_with fail
          replace hK := hK.out (.pointer (some ⟨w.heap.size + 1, 2, none⟩))
          simp only [Act.put, List.setIfInBounds_toArray, List.set_cons_zero, List.set_cons_succ, Nat.add_zero] at hK
          exact hK _ (hI.out) (Wrt.pure (World.grownBy.refl _ _)) (rfl)
        refine MOpsF.op (fun vs wx m k hmj hcl hI hk hf K hK => ?_) ?_
        · obtain ⟨r, e0⟩ := hf 13 (by decide) (by kernel_rfl)
          have e1 : vs 18 = .pointer (some ⟨w.heap.size + 1, 2, none⟩) := hf 18 (by decide) (by kernel_rfl)
          clear hf hcl
          obtain ⟨a1, ⟨x', y', z', q0, q1, q2⟩, a3, a4, a5, a6⟩ := hI
          obtain ⟨hq, hqf⟩ := id q2
          have hgw := gr_set (r := some (w.heap.size + 1)) (p := ⟨w.heap.size + 1, 2, none⟩) (World.grownBy.refl wx _) (.inl rfl) (.bool r)
          replace hK := hide hK
          rw [e0, e1]
          replace e0 := hide e0
          replace e1 := hide e1
          go_wp2_with fail
          replace hK := hK.out undef
          simp only [Act.put, List.setIfInBounds_toArray, List.set_cons_zero, List.set_cons_succ, e0.out, e1.out] at hK
          exact hK _ (⟨a1.set hbw (Nat.le_succ _) _, ⟨x', y', r, q0.set_ne _ (by decide), q1.set_ne _ (by decide), q2.set_ _⟩, by rw [heap_set]; exact a3, a4.gr hgw (by simp), a5.gr hgw (by simp), a6.gr hgw (by simp)⟩) (Wrt.one hgw (.inr rfl)) (trivial)
        exact MOpsF.done
      case iv3 =>
      intro vs w7 m hm' hI hf
      obtain ⟨a1, ⟨x', y', z', J0', J1', J2'⟩, _, K0', K1', K2'⟩ := hI
      clear hf hm' K0 K1 K2 J0 J1 J2 hG
      have hG : SOut b (N + 10) w w7 := a1.mono (by have := hNN.out; simp; omega)
      have K0 := K0'
      have K1 := K1'
      have K2 := K2'
      have J0 := J0'
      have J1 := J1'
      have J2 := J2'
      clear K0' K1' K2' J0' J1' J2' a1
      obtain ⟨k0, f0⟩ := K0
      obtain ⟨k1, f1⟩ := K1
      obtain ⟨k2, f2⟩ := K2
      obtain ⟨j0, -⟩ := J0
      obtain ⟨j1, -⟩ := J1
      obtain ⟨j2, -⟩ := J2
      go_wp2_with fail
      refine bodyPost_ret (v := .agg #[.int .i64 x', .int .i64 y', .bool z']) (by simp [results, Try.results8, go_sem, k0, k1, k2, f0, f1, f2]) rfl ⟨⟨x', y', z'⟩, rfl, ?_⟩
      exact (((hG.mono (show _ ≤ N + 10 by omega)).set hbw (Nat.le_refl _) _).set hbw (Nat.le_refl _) _).set hbw (Nat.le_refl _) _
  · have hin2 : i < 0 ∨ l.length ≤ i := by omega
    by_cases hin3 : i < 0
    · have hin4 : ¬ 0 ≤ i := by omega
      clear hin hin2
      go_enter Try.func8, Try.ntmps8
      go_upto_if 17 with fail
      go_cut [7] (fun s7 wx => s7 = .pointer (some ⟨w.heap.size + 1, 0, none⟩) ∧ AVI b (N + 1) w wx)
      case first =>
        go_wp2_with fail
        go_meet
        exact ⟨rfl, hS0, ⟨K0, K1, K2⟩, _, _, _, J0, J1, J2⟩
      case rest =>
      obtain ⟨rfl, hS, ⟨K0', K1', K2'⟩, x, y, z, J0', J1', J2'⟩ := hcut
      clear K0 K1 K2 J0 J1 J2 hs1 hl1 hg0 hg1 hgA
      rename World => w1
      go_wp2_with fail
      refine (flip_any b _ _ _ hS.2 (by omega) (by omega)).mono ?_
      rintro e w2 ⟨f, rfl, ho2⟩
      have hG := hS.trans ho2
      have K0 := K0'.gr ho2.1 (by simp; omega)
      have K1 := K1'.gr ho2.1 (by simp; omega)
      have K2 := K2'.gr ho2.1 (by simp; omega)
      have J0 := J0'.gr ho2.1 (by simp; omega)
      have J1 := J1'.gr ho2.1 (by simp; omega)
      have J2 := J2'.gr ho2.1 (by simp; omega)
      clear K0' K1' K2' J0' J1' J2' hS ho2
      cases f
      · obtain ⟨k0, f0⟩ := K0
        obtain ⟨k1, f1⟩ := K1
        obtain ⟨k2, f2⟩ := K2
        obtain ⟨j0, -⟩ := J0
        obtain ⟨j1, -⟩ := J1
        obtain ⟨j2, -⟩ := J2
        go_wp2_with fail
        refine bodyPost_ret (v := .agg #[.int .i64 x, .int .i64 y, .bool z]) (by simp [results, Try.results8, go_sem, k0, k1, k2, f0, f1, f2]) rfl ⟨⟨x, y, z⟩, rfl, ?_⟩
        exact (((hG.mono (show _ ≤ N + 10 by omega)).set hbw (Nat.le_refl _) _).set hbw (Nat.le_refl _) _).set hbw (Nat.le_refl _) _
      · go_wp2_with fail
        obtain ⟨NN, hNN⟩ : ∃ NN : Int, NN = N + 1 + 1 := ⟨_, rfl⟩
        rw [← hNN] at hG
        have hNb : NN ≤ 1000000010 := by omega
        obtain ⟨lo, hlo⟩ : ∃ lo : Nat, lo = w2.heap.size := ⟨_, rfl⟩
        have hlow : lo ≤ w2.heap.size := by omega
        have hgl : w.heap.size + 1 < lo := by rw [hlo]; exact J0.lt
        have hW1 : ∀ g, (g = b ∨ g = w.heap.size + 1) → g < lo := fun g h => by rcases h with h | h <;> omega
        have hblo : b + 1 ≤ lo := by omega
        replace hlo := hide hlo
        replace hNN := hide hNN
        refine wp_region_minvF (VMid b (w.heap.size + 1) lo NN w) (fun _ => Wrt (fun g => g = b ∨ g = w.heap.size + 1)) [VIs (.pointer (some ⟨b, 0, none⟩)), VIs (.pointer (some ⟨w.heap.size + 1, 0, none⟩)), VInt, VIs (.slice A l.length c), VIs (.int .i64 l.length), VLit (α := Int) lo 4, VInt, VIs (.pointer (some ⟨b, 0, none⟩)), VIs (.pointer (some ⟨w.heap.size + 1, 1, none⟩)), VInt, VLit (α := Int) lo 4, VInt, VIs (.pointer (some ⟨b, 0, none⟩)), VBool, VIs (.pointer (some ⟨w.heap.size + 1, 0, none⟩)), (fun _ _ => True), VIs (.pointer (some ⟨w.heap.size + 1, 1, none⟩)), (fun _ _ => True), VIs (.pointer (some ⟨w.heap.size + 1, 2, none⟩)), (fun _ _ => True)]
          [0, 0, 0, 0, 0, 0, 1, 0, 0, 0, 0, 1, 0, 1, 0, 0, 0, 0, 0, 0] (by kernel_rfl) (by kernel_rfl) (by intro vs; simp only [putAll, Act.put, List.setIfInBounds_toArray, List.set_cons_zero, List.set_cons_succ, Nat.reduceAdd]; exact rfl) ?iv0 ?iv1 rfl ?iv2 ?iv3
        case iv0 =>
          have hg := gr_drew (r := none) (World.grownBy.refl w2 none)
          exact fun m _ => ⟨(hG.mono (by omega)).drew, ⟨_, _, _, J0.gr hg (by simp), J1.gr hg (by simp), J2.gr hg (by simp)⟩, hlow, K0.gr hg (by simp), K1.gr hg (by simp), K2.gr hg (by simp)⟩
        case iv1 =>
          exact Stab.ok ⟨fun m v w w' _ _ h => h, fun m v w w' _ _ h => h, fun m v w w' _ _ h => h, fun m v w w' _ _ h => h, fun m v w w' _ _ h => h, fun m v w w' _ hw h => h.stab hw hW1, fun m v w w' _ _ h => h, fun m v w w' _ _ h => h, fun m v w w' _ _ h => h, fun m v w w' _ _ h => h,
            fun m v w w' _ hw h => h.stab hw hW1, fun m v w w' _ _ h => h, fun m v w w' _ _ h => h, fun m v w w' _ _ h => h, fun m v w w' _ _ h => h, fun m v w w' _ _ h => h, fun m v w w' _ _ h => h, fun m v w w' _ _ h => h, fun m v w w' _ _ h => h, fun m v w w' _ _ h => h, trivial⟩
        case iv2 =>
          refine MOpsF.op (fun vs wx m k hmj hcl hI hk hf K hK => ?_) ?_
          · clear hf hcl
            replace hK := hide hK
            replace hI := hide hI
            go_wp2_with fail
            replace hK := hK.out (.pointer (some ⟨b, 0, none⟩))
            simp only [Act.put, List.setIfInBounds_toArray, List.set_cons_zero, List.set_cons_succ, Nat.add_zero] at hK
            exact hK _ (hI.out) (Wrt.pure (World.grownBy.refl _ _)) (rfl)
          refine MOpsF.op (fun vs wx m k hmj hcl hI hk hf K hK => ?_) ?_
          · clear hf hcl
            replace hK := hide hK
            replace hI := hide hI
            go_wp2_with fail
            replace hK := hK.out (.pointer (some ⟨w.heap.size + 1, 0, none⟩))
            simp only [Act.put, List.setIfInBounds_toArray, List.set_cons_zero, List.set_cons_succ, Nat.add_zero] at hK
            exact hK _ (hI.out) (Wrt.pure (World.grownBy.refl _ _)) (rfl)
          refine MOpsF.op (fun vs wx m k hmj hcl hI hk hf K hK => ?_) ?_
          · have e0 : vs 1 = .pointer (some ⟨w.heap.size + 1, 0, none⟩) := hf 1 (by decide) (by kernel_rfl)
            clear hf hcl
            have hI2 := hI
            obtain ⟨_, ⟨x', y', z', q0, q1, q2⟩, _, _⟩ := hI2
            have hq := (q0).1
            clear q0 q1 q2
            replace hK := hide hK
            replace hI := hide hI
            rw [e0]
            replace e0 := hide e0
            go_wp2_with fail
            replace hK := hK.out (.int .i64 x')
            simp only [Act.put, List.setIfInBounds_toArray, List.set_cons_zero, List.set_cons_succ, e0.out] at hK
            exact hK _ (hI.out) (Wrt.pure (World.grownBy.refl _ _)) (⟨_, rfl⟩)
          refine MOpsF.op (fun vs wx m k hmj hcl hI hk hf K hK => ?_) ?_
          · clear hf hcl
            replace hK := hide hK
            replace hI := hide hI
            go_wp2_with fail
            replace hK := hK.out (.slice A l.length c)
            simp only [Act.put, List.setIfInBounds_toArray, List.set_cons_zero, List.set_cons_succ, Nat.add_zero] at hK
            exact hK _ (hI.out) (Wrt.pure (World.grownBy.refl _ _)) (rfl)
          refine MOpsF.op (fun vs wx m k hmj hcl hI hk hf K hK => ?_) ?_
          · have e0 : vs 3 = .slice A l.length c := hf 3 (by decide) (by kernel_rfl)
            clear hf hcl
            replace hK := hide hK
            replace hI := hide hI
            rw [e0]
            replace e0 := hide e0
            go_wp2_with fail
            replace hK := hK.out (.int .i64 l.length)
            simp only [Act.put, List.setIfInBounds_toArray, List.set_cons_zero, List.set_cons_succ, e0.out] at hK
            exact hK _ (hI.out) (Wrt.pure (World.grownBy.refl _ _)) (rfl)
          refine MOpsF.op (fun vs wx m k hmj hcl hI hk hf K hK => ?_) ?_
          · obtain ⟨r0, e0⟩ := hf 2 (by decide) (by kernel_rfl)
            have e1 : vs 4 = .int .i64 l.length := hf 4 (by decide) (by kernel_rfl)
            clear hf hcl
            replace hK := hide hK
            rw [e0, e1]
            replace e0 := hide e0
            replace e1 := hide e1
            go_wp2_with fail
            replace hK := hK.out (.slice (some ⟨wx.heap.size, 0, none⟩) 4 4)
            simp only [Act.put, List.setIfInBounds_toArray, List.set_cons_zero, List.set_cons_succ, e0.out, e1.out] at hK
            exact hK _ ((hI.al _)) (Wrt.pure (gr_alloc (World.grownBy.refl _ _) _)) (⟨wx.heap.size, [r0, -1, l.length, 0], rfl, rfl, sl_intsAt _ _ _ _ _ rfl hI.2.2.1 (by simp [maxLen])⟩)
          refine MOpsF.op (fun vs wx m k hmj hcl hI hk hf K hK => ?_) ?_
          · obtain ⟨g, ll, e1, hll, hsl⟩ := hf 5 (by decide) (by kernel_rfl)
            have e0 : vs 0 = .pointer (some ⟨b, 0, none⟩) := hf 0 (by decide) (by kernel_rfl)
            clear hf hcl
            have hk2 : k + 1 ≤ 3 := hk
            clear hk
            replace hK := hide hK
            rw [e0, e1]
            replace e0 := hide e0
            replace e1 := hide e1
            go_wp2_with fail
            refine (pick_any b (NN + k) _ _ _ ll _ hI.1.2 (by omega) (hsl.mono (by omega)) hll (by simp)).mono ?_
            rintro e wy ⟨r, rfl, _, hoy⟩
            go_wp2_with fail
            replace hK := hK.out (.int .i64 r)
            simp only [Act.put, List.setIfInBounds_toArray, List.set_cons_zero, List.set_cons_succ, e0.out, e1.out] at hK
            exact hK _ ((hI.st ⟨by omega, hbw⟩ 1 hoy)) (Wrt.one hoy.1 (.inl rfl)) (⟨r, rfl⟩)
          refine MOpsF.op (fun vs wx m k hmj hcl hI hk hf K hK => ?_) ?_
          · clear hf hcl
            replace hK := hide hK
            replace hI := hide hI
            go_wp2_with fail
            replace hK := hK.out (.pointer (some ⟨b, 0, none⟩))
            simp only [Act.put, List.setIfInBounds_toArray, List.set_cons_zero, List.set_cons_succ, Nat.add_zero] at hK
            exact hK _ (hI.out) (Wrt.pure (World.grownBy.refl _ _)) (rfl)
          refine MOpsF.op (fun vs wx m k hmj hcl hI hk hf K hK => ?_) ?_
          · clear hf hcl
            replace hK := hide hK
            replace hI := hide hI
            go_wp2_with fail
            replace hK := hK.out (.pointer (some ⟨w.heap.size + 1, 1, none⟩))
            simp only [Act.put, List.setIfInBounds_toArray, List.set_cons_zero, List.set_cons_succ, Nat.add_zero] at hK
            exact hK _ (hI.out) (Wrt.pure (World.grownBy.refl _ _)) (rfl)
          refine MOpsF.op (fun vs wx m k hmj hcl hI hk hf K hK => ?_) ?_
          · have e0 : vs 8 = .pointer (some ⟨w.heap.size + 1, 1, none⟩) := hf 8 (by decide) (by kernel_rfl)
            clear hf hcl
            have hI2 := hI
            obtain ⟨_, ⟨x', y', z', q0, q1, q2⟩, _, _⟩ := hI2
            have hq := (q1).1
            clear q0 q1 q2
            replace hK := hide hK
            replace hI := hide hI
            rw [e0]
            replace e0 := hide e0
            go_wp2_with fail
            replace hK := hK.out (.int .i64 y')
            simp only [Act.put, List.setIfInBounds_toArray, List.set_cons_zero, List.set_cons_succ, e0.out] at hK
            exact hK _ (hI.out) (Wrt.pure (World.grownBy.refl _ _)) (⟨_, rfl⟩)
          refine MOpsF.op (fun vs wx m k hmj hcl hI hk hf K hK => ?_) ?_
          · obtain ⟨r0, e0⟩ := hf 9 (by decide) (by kernel_rfl)
            clear hf hcl
            replace hK := hide hK
            rw [e0]
            replace e0 := hide e0
            go_wp2_with fail
            replace hK := hK.out (.slice (some ⟨wx.heap.size, 0, none⟩) 4 4)
            simp only [Act.put, List.setIfInBounds_toArray, List.set_cons_zero, List.set_cons_succ, e0.out] at hK
            exact hK _ ((hI.al _)) (Wrt.pure (gr_alloc (World.grownBy.refl _ _) _)) (⟨wx.heap.size, [r0, 1, -1, 9], rfl, rfl, sl_intsAt _ _ _ _ _ rfl hI.2.2.1 (by simp [maxLen])⟩)
          refine MOpsF.op (fun vs wx m k hmj hcl hI hk hf K hK => ?_) ?_
          · obtain ⟨g, ll, e1, hll, hsl⟩ := hf 10 (by decide) (by kernel_rfl)
            have e0 : vs 7 = .pointer (some ⟨b, 0, none⟩) := hf 7 (by decide) (by kernel_rfl)
            clear hf hcl
            have hk2 : k + 1 ≤ 3 := hk
            clear hk
            replace hK := hide hK
            rw [e0, e1]
            replace e0 := hide e0
            replace e1 := hide e1
            go_wp2_with fail
            refine (pick_any b (NN + k) _ _ _ ll _ hI.1.2 (by omega) (hsl.mono (by omega)) hll (by simp)).mono ?_
            rintro e wy ⟨r, rfl, _, hoy⟩
            go_wp2_with fail
            replace hK := hK.out (.int .i64 r)
            simp only [Act.put, List.setIfInBounds_toArray, List.set_cons_zero, List.set_cons_succ, e0.out, e1.out] at hK
            exact hK _ ((hI.st ⟨by omega, hbw⟩ 1 hoy)) (Wrt.one hoy.1 (.inl rfl)) (⟨r, rfl⟩)
          refine MOpsF.op (fun vs wx m k hmj hcl hI hk hf K hK => ?_) ?_
          · clear hf hcl
            replace hK := hide hK
            replace hI := hide hI
            go_wp2_with fail
            replace hK := hK.out (.pointer (some ⟨b, 0, none⟩))
            simp only [Act.put, List.setIfInBounds_toArray, List.set_cons_zero, List.set_cons_succ, Nat.add_zero] at hK
            exact hK _ (hI.out) (Wrt.pure (World.grownBy.refl _ _)) (rfl)
          refine MOpsF.op (fun vs wx m k hmj hcl hI hk hf K hK => ?_) ?_
          · have e0 : vs 12 = .pointer (some ⟨b, 0, none⟩) := hf 12 (by decide) (by kernel_rfl)
            clear hf hcl
            have hk2 : k + 1 ≤ 3 := hk
            clear hk
            replace hK := hide hK
            rw [e0]
            replace e0 := hide e0
            go_wp2_with fail
            refine (flip_any b (NN + k) _ _ hI.1.2 (by omega) (by omega)).mono ?_
            rintro e wy ⟨r, rfl, hoy⟩
            go_wp2_with fail
            replace hK := hK.out (.bool r)
            simp only [Act.put, List.setIfInBounds_toArray, List.set_cons_zero, List.set_cons_succ, e0.out] at hK
            exact hK _ ((hI.st ⟨by omega, hbw⟩ 1 hoy)) (Wrt.one hoy.1 (.inl rfl)) (⟨r, rfl⟩)
          refine MOpsF.op (fun vs wx m k hmj hcl hI hk hf K hK => ?_) ?_
          · clear hf hcl
            replace hK := hide hK
            replace hI := hide hI
            go_wp2_with fail
            replace hK := hK.out (.pointer (some ⟨w.heap.size + 1, 0, none⟩))
            simp only [Act.put, List.setIfInBounds_toArray, List.set_cons_zero, List.set_cons_succ, Nat.add_zero] at hK
            exact hK _ (hI.out) (Wrt.pure (World.grownBy.refl _ _)) (rfl)
          refine MOpsF.op (fun vs wx m k hmj hcl hI hk hf K hK => ?_) ?_
          · obtain ⟨r, e0⟩ := hf 6 (by decide) (by kernel_rfl)
            have e1 : vs 14 = .pointer (some ⟨w.heap.size + 1, 0, none⟩) := hf 14 (by decide) (by kernel_rfl)
            clear hf hcl
            obtain ⟨a1, ⟨x', y', z', q0, q1, q2⟩, a3, a4, a5, a6⟩ := hI
            obtain ⟨hq, hqf⟩ := id q0
            have hgw := gr_set (r := some (w.heap.size + 1)) (p := ⟨w.heap.size + 1, 0, none⟩) (World.grownBy.refl wx _) (.inl rfl) (.int .i64 r)
            replace hK := hide hK
            rw [e0, e1]
            replace e0 := hide e0
            replace e1 := hide e1
            go_wp2_with fail
            replace hK := hK.out undef
            simp only [Act.put, List.setIfInBounds_toArray, List.set_cons_zero, List.set_cons_succ, e0.out, e1.out] at hK
            exact hK _ (⟨a1.set hbw (Nat.le_succ _) _, ⟨r, y', z', q0.set_ _, q1.set_ne _ (by decide), q2.set_ne _ (by decide)⟩, by rw [heap_set]; exact a3, a4.gr hgw (by simp), a5.gr hgw (by simp), a6.gr hgw (by simp)⟩) (Wrt.one hgw (.inr rfl)) (trivial)
          refine MOpsF.op (fun vs wx m k hmj hcl hI hk hf K hK => ?_) ?_
          · clear hf hcl
            replace hK := hide hK
            replace hI := hide hI
            go_wp2_with fail
            replace hK := hK.out (.pointer (some ⟨w.heap.size + 1, 1, none⟩))
            simp only [Act.put, List.setIfInBounds_toArray, List.set_cons_zero, List.set_cons_succ, Nat.add_zero] at hK
            exact hK _ (hI.out) (Wrt.pure (World.grownBy.refl _ _)) (rfl)
          refine MOpsF.op (fun vs wx m k hmj hcl hI hk hf K hK => ?_) ?_
          · obtain ⟨r, e0⟩ := hf 11 (by decide) (by kernel_rfl)
            have e1 : vs 16 = .pointer (some ⟨w.heap.size + 1, 1, none⟩) := hf 16 (by decide) (by kernel_rfl)
            clear hf hcl
            obtain ⟨a1, ⟨x', y', z', q0, q1, q2⟩, a3, a4, a5, a6⟩ := hI
            obtain ⟨hq, hqf⟩ := id q1
            have hgw := gr_set (r := some (w.heap.size + 1)) (p := ⟨w.heap.size + 1, 1, none⟩) (World.grownBy.refl wx _) (.inl rfl) (.int .i64 r)
            replace hK := hide hK
            rw [e0, e1]
            replace e0 := hide e0
            replace e1 := hide e1
            go_wp2_with fail
            replace hK := hK.out undef
            simp only [Act.put, List.setIfInBounds_toArray, List.set_cons_zero, List.set_cons_succ, e0.out, e1.out] at hK
            exact hK _ (⟨a1.set hbw (Nat.le_succ _) _, ⟨x', r, z', q0.set_ne _ (by decide), q1.set_ _, q2.set_ne _ (by decide)⟩, by rw [heap_set]; exact a3, a4.gr hgw (by simp), a5.gr hgw (by simp), a6.gr hgw (by simp)⟩) (Wrt.one hgw (.inr rfl)) (trivial)
          refine MOpsF.op (fun vs wx m k hmj hcl hI hk hf K hK => ?_) ?_
          · clear hf hcl
            replace hK := hide hK
            replace hI := hide hI
            go_wp2_with fail
            replace hK := hK.out (.pointer (some ⟨w.heap.size + 1, 2, none⟩))
            simp only [Act.put, List.setIfInBounds_toArray, List.set_cons_zero, List.set_cons_succ, Nat.add_zero] at hK
            exact hK _ (hI.out) (Wrt.pure (World.grownBy.refl _ _)) (rfl)
          refine MOpsF.op (fun vs wx m k hmj hcl hI hk hf K hK => ?_) ?_
          · obtain ⟨r, e0⟩ := hf 13 (by decide) (by kernel_rfl)
            have e1 : vs 18 = .pointer (some ⟨w.heap.size + 1, 2, none⟩) := hf 18 (by decide) (by kernel_rfl)
            clear hf hcl
            obtain ⟨a1, ⟨x', y', z', q0, q1, q2⟩, a3, a4, a5, a6⟩ := hI
            obtain ⟨hq, hqf⟩ := id q2
            have hgw := gr_set (r := some (w.heap.size + 1)) (p := ⟨w.heap.size + 1, 2, none⟩) (World.grownBy.refl wx _) (.inl rfl) (.bool r)
            replace hK := hide hK
            rw [e0, e1]
            replace e0 := hide e0
            replace e1 := hide e1
            go_wp2_with fail
            replace hK := hK.out undef
            simp only [Act.put, List.setIfInBounds_toArray, List.set_cons_zero, List.set_cons_succ, e0.out, e1.out] at hK
            exact hK _ (⟨a1.set hbw (Nat.le_succ _) _, ⟨x', y', r, q0.set_ne _ (by decide), q1.set_ne _ (by decide), q2.set_ _⟩, by rw [heap_set]; exact a3, a4.gr hgw (by simp), a5.gr hgw (by simp), a6.gr hgw (by simp)⟩) (Wrt.one hgw (.inr rfl)) (trivial)
          exact MOpsF.done
        case iv3 =>
        intro vs w7 m hm' hI hf
        obtain ⟨a1, ⟨x', y', z', J0', J1', J2'⟩, _, K0', K1', K2'⟩ := hI
        clear hf hm' K0 K1 K2 J0 J1 J2 hG
        have hG : SOut b (N + 10) w w7 := a1.mono (by have := hNN.out; simp; omega)
        have K0 := K0'
        have K1 := K1'
        have K2 := K2'
        have J0 := J0'
        have J1 := J1'
        have J2 := J2'
        clear K0' K1' K2' J0' J1' J2' a1
        obtain ⟨k0, f0⟩ := K0
        obtain ⟨k1, f1⟩ := K1
        obtain ⟨k2, f2⟩ := K2
        obtain ⟨j0, -⟩ := J0
        obtain ⟨j1, -⟩ := J1
        obtain ⟨j2, -⟩ := J2
        go_wp2_with fail
        refine bodyPost_ret (v := .agg #[.int .i64 x', .int .i64 y', .bool z']) (by simp [results, Try.results8, go_sem, k0, k1, k2, f0, f1, f2]) rfl ⟨⟨x', y', z'⟩, rfl, ?_⟩
        exact (((hG.mono (show _ ≤ N + 10 by omega)).set hbw (Nat.le_refl _) _).set hbw (Nat.le_refl _) _).set hbw (Nat.le_refl _) _
    · have hin4 : ¬ i < l.length := by omega
      have hin5 : 0 ≤ i := by omega
      clear hin hin2 hin3
      go_enter Try.func8, Try.ntmps8
      go_upto_if 17 with fail
      go_cut [7] (fun s7 wx => s7 = .pointer (some ⟨w.heap.size + 1, 0, none⟩) ∧ AVI b (N + 1) w wx)
      case first =>
        go_wp2_with fail
        go_meet
        exact ⟨rfl, hS0, ⟨K0, K1, K2⟩, _, _, _, J0, J1, J2⟩
      case rest =>
      obtain ⟨rfl, hS, ⟨K0', K1', K2'⟩, x, y, z, J0', J1', J2'⟩ := hcut
      clear K0 K1 K2 J0 J1 J2 hs1 hl1 hg0 hg1 hgA
      rename World => w1
      go_wp2_with fail
      refine (flip_any b _ _ _ hS.2 (by omega) (by omega)).mono ?_
      rintro e w2 ⟨f, rfl, ho2⟩
      have hG := hS.trans ho2
      have K0 := K0'.gr ho2.1 (by simp; omega)
      have K1 := K1'.gr ho2.1 (by simp; omega)
      have K2 := K2'.gr ho2.1 (by simp; omega)
      have J0 := J0'.gr ho2.1 (by simp; omega)
      have J1 := J1'.gr ho2.1 (by simp; omega)
      have J2 := J2'.gr ho2.1 (by simp; omega)
      clear K0' K1' K2' J0' J1' J2' hS ho2
      cases f
      · obtain ⟨k0, f0⟩ := K0
        obtain ⟨k1, f1⟩ := K1
        obtain ⟨k2, f2⟩ := K2
        obtain ⟨j0, -⟩ := J0
        obtain ⟨j1, -⟩ := J1
        obtain ⟨j2, -⟩ := J2
        go_wp2_with fail
        refine bodyPost_ret (v := .agg #[.int .i64 x, .int .i64 y, .bool z]) (by simp [results, Try.results8, go_sem, k0, k1, k2, f0, f1, f2]) rfl ⟨⟨x, y, z⟩, rfl, ?_⟩
        exact (((hG.mono (show _ ≤ N + 10 by omega)).set hbw (Nat.le_refl _) _).set hbw (Nat.le_refl _) _).set hbw (Nat.le_refl _) _
      · go_wp2_with fail
        obtain ⟨NN, hNN⟩ : ∃ NN : Int, NN = N + 1 + 1 := ⟨_, rfl⟩
        rw [← hNN] at hG
        have hNb : NN ≤ 1000000010 := by omega
        obtain ⟨lo, hlo⟩ : ∃ lo : Nat, lo = w2.heap.size := ⟨_, rfl⟩
        have hlow : lo ≤ w2.heap.size := by omega
        have hgl : w.heap.size + 1 < lo := by rw [hlo]; exact J0.lt
        have hW1 : ∀ g, (g = b ∨ g = w.heap.size + 1) → g < lo := fun g h => by rcases h with h | h <;> omega
        have hblo : b + 1 ≤ lo := by omega
        replace hlo := hide hlo
        replace hNN := hide hNN
        refine wp_region_minvF (VMid b (w.heap.size + 1) lo NN w) (fun _ => Wrt (fun g => g = b ∨ g = w.heap.size + 1)) [VIs (.pointer (some ⟨b, 0, none⟩)), VIs (.pointer (some ⟨w.heap.size + 1, 0, none⟩)), VInt, VIs (.slice A l.length c), VIs (.int .i64 l.length), VLit (α := Int) lo 4, VInt, VIs (.pointer (some ⟨b, 0, none⟩)), VIs (.pointer (some ⟨w.heap.size + 1, 1, none⟩)), VInt, VLit (α := Int) lo 4, VInt, VIs (.pointer (some ⟨b, 0, none⟩)), VBool, VIs (.pointer (some ⟨w.heap.size + 1, 0, none⟩)), (fun _ _ => True), VIs (.pointer (some ⟨w.heap.size + 1, 1, none⟩)), (fun _ _ => True), VIs (.pointer (some ⟨w.heap.size + 1, 2, none⟩)), (fun _ _ => True)]
          [0, 0, 0, 0, 0, 0, 1, 0, 0, 0, 0, 1, 0, 1, 0, 0, 0, 0, 0, 0] (by kernel_rfl) (by kernel_rfl) (by intro vs; simp only [putAll, Act.put, List.setIfInBounds_toArray, List.set_cons_zero, List.set_cons_succ, Nat.reduceAdd]; exact rfl) ?iv0 ?iv1 rfl ?iv2 ?iv3
        case iv0 =>
          have hg := gr_drew (r := none) (World.grownBy.refl w2 none)
          exact fun m _ => ⟨(hG.mono (by omega)).drew, ⟨_, _, _, J0.gr hg (by simp), J1.gr hg (by simp), J2.gr hg (by simp)⟩, hlow, K0.gr hg (by simp), K1.gr hg (by simp), K2.gr hg (by simp)⟩
        case iv1 =>
          exact Stab.ok ⟨fun m v w w' _ _ h => h, fun m v w w' _ _ h => h, fun m v w w' _ _ h => h, fun m v w w' _ _ h => h, fun m v w w' _ _ h => h, fun m v w w' _ hw h => h.stab hw hW1, fun m v w w' _ _ h => h, fun m v w w' _ _ h => h, fun m v w w' _ _ h => h, fun m v w w' _ _ h => h,
            fun m v w w' _ hw h => h.stab hw hW1, fun m v w w' _ _ h => h, fun m v w w' _ _ h => h, fun m v w w' _ _ h => h, fun m v w w' _ _ h => h, fun m v w w' _ _ h => h, fun m v w w' _ _ h => h, fun m v w w' _ _ h => h, fun m v w w' _ _ h => h, fun m v w w' _ _ h => h, trivial⟩
        case iv2 =>
          refine MOpsF.op (fun vs wx m k hmj hcl hI hk hf K hK => ?_) ?_
          · clear hf hcl
            replace hK := hide hK
            replace hI := hide hI
            go_wp2_with fail
            replace hK := hK.out (.pointer (some ⟨b, 0, none⟩))
            simp only [Act.put, List.setIfInBounds_toArray, List.set_cons_zero, List.set_cons_succ, Nat.add_zero] at hK
            exact hK _ (hI.out) (Wrt.pure (World.grownBy.refl _ _)) (rfl)
          refine MOpsF.op (fun vs wx m k hmj hcl hI hk hf K hK => ?_) ?_
          · clear hf hcl
            replace hK := hide hK
            replace hI := hide hI
            go_wp2_with fail
            replace hK := hK.out (.pointer (some ⟨w.heap.size + 1, 0, none⟩))
            simp only [Act.put, List.setIfInBounds_toArray, List.set_cons_zero, List.set_cons_succ, Nat.add_zero] at hK
            exact hK _ (hI.out) (Wrt.pure (World.grownBy.refl _ _)) (rfl)
          refine MOpsF.op (fun vs wx m k hmj hcl hI hk hf K hK => ?_) ?_
          · have e0 : vs 1 = .pointer (some ⟨w.heap.size + 1, 0, none⟩) := hf 1 (by decide) (by kernel_rfl)
            clear hf hcl
            have hI2 := hI
            obtain ⟨_, ⟨x', y', z', q0, q1, q2⟩, _, _⟩ := hI2
            have hq := (q0).1
            clear q0 q1 q2
            replace hK := hide hK
            replace hI := hide hI
            rw [e0]
            replace e0 := hide e0
            go_wp2_with fail
            replace hK := hK.out (.int .i64 x')
            simp only [Act.put, List.setIfInBounds_toArray, List.set_cons_zero, List.set_cons_succ, e0.out] at hK
            exact hK _ (hI.out) (Wrt.pure (World.grownBy.refl _ _)) (⟨_, rfl⟩)
          refine MOpsF.op (fun vs wx m k hmj hcl hI hk hf K hK => ?_) ?_
          · clear hf hcl
            replace hK := hide hK
            replace hI := hide hI
            go_wp2_with fail
            replace hK := hK.out (.slice A l.length c)
            simp only [Act.put, List.setIfInBounds_toArray, List.set_cons_zero, List.set_cons_succ, Nat.add_zero] at hK
            exact hK _ (hI.out) (Wrt.pure (World.grownBy.refl _ _)) (rfl)
          refine MOpsF.op (fun vs wx m k hmj hcl hI hk hf K hK => ?_) ?_
          · have e0 : vs 3 = .slice A l.length c := hf 3 (by decide) (by kernel_rfl)
            clear hf hcl
            replace hK := hide hK
            replace hI := hide hI
            rw [e0]
            replace e0 := hide e0
            go_wp2_with fail
            replace hK := hK.out (.int .i64 l.length)
            simp only [Act.put, List.setIfInBounds_toArray, List.set_cons_zero, List.set_cons_succ, e0.out] at hK
            exact hK _ (hI.out) (Wrt.pure (World.grownBy.refl _ _)) (rfl)
          refine MOpsF.op (fun vs wx m k hmj hcl hI hk hf K hK => ?_) ?_
          · obtain ⟨r0, e0⟩ := hf 2 (by decide) (by kernel_rfl)
            have e1 : vs 4 = .int .i64 l.length := hf 4 (by decide) (by kernel_rfl)
            clear hf hcl
            replace hK := hide hK
            rw [e0, e1]
            replace e0 := hide e0
            replace e1 := hide e1
            go_wp2_with fail
            replace hK := hK.out (.slice (some ⟨wx.heap.size, 0, none⟩) 4 4)
            simp only [Act.put, List.setIfInBounds_toArray, List.set_cons_zero, List.set_cons_succ, e0.out, e1.out] at hK
            exact hK _ ((hI.al _)) (Wrt.pure (gr_alloc (World.grownBy.refl _ _) _)) (⟨wx.heap.size, [r0, -1, l.length, 0], rfl, rfl, sl_intsAt _ _ _ _ _ rfl hI.2.2.1 (by simp [maxLen])⟩)
          refine MOpsF.op (fun vs wx m k hmj hcl hI hk hf K hK => ?_) ?_
          · obtain ⟨g, ll, e1, hll, hsl⟩ := hf 5 (by decide) (by kernel_rfl)
            have e0 : vs 0 = .pointer (some ⟨b, 0, none⟩) := hf 0 (by decide) (by kernel_rfl)
            clear hf hcl
            have hk2 : k + 1 ≤ 3 := hk
            clear hk
            replace hK := hide hK
            rw [e0, e1]
            replace e0 := hide e0
            replace e1 := hide e1
            go_wp2_with fail
            refine (pick_any b (NN + k) _ _ _ ll _ hI.1.2 (by omega) (hsl.mono (by omega)) hll (by simp)).mono ?_
            rintro e wy ⟨r, rfl, _, hoy⟩
            go_wp2_with fail
            replace hK := hK.out (.int .i64 r)
            simp only [Act.put, List.setIfInBounds_toArray, List.set_cons_zero, List.set_cons_succ, e0.out, e1.out] at hK
            exact hK _ ((hI.st ⟨by omega, hbw⟩ 1 hoy)) (Wrt.one hoy.1 (.inl rfl)) (⟨r, rfl⟩)
          refine MOpsF.op (fun vs wx m k hmj hcl hI hk hf K hK => ?_) ?_
          · clear hf hcl
            replace hK := hide hK
            replace hI := hide hI
            go_wp2_with fail
            replace hK := hK.out (.pointer (some ⟨b, 0, none⟩))
            simp only [Act.put, List.setIfInBounds_toArray, List.set_cons_zero, List.set_cons_succ, Nat.add_zero] at hK
            exact hK _ (hI.out) (Wrt.pure (World.grownBy.refl _ _)) (rfl)
          refine MOpsF.op (fun vs wx m k hmj hcl hI hk hf K hK => ?_) ?_
          · clear hf hcl
            replace hK := hide hK
            replace hI := hide hI
            go_wp2_with fail
            replace hK := hK.out (.pointer (some ⟨w.heap.size + 1, 1, none⟩))
            simp only [Act.put, List.setIfInBounds_toArray, List.set_cons_zero, List.set_cons_succ, Nat.add_zero] at hK
            exact hK _ (hI.out) (Wrt.pure (World.grownBy.refl _ _)) (rfl)
          refine MOpsF.op (fun vs wx m k hmj hcl hI hk hf K hK => ?_) ?_
          · have e0 : vs 8 = .pointer (some ⟨w.heap.size + 1, 1, none⟩) := hf 8 (by decide) (by kernel_rfl)
            clear hf hcl
            have hI2 := hI
            obtain ⟨_, ⟨x', y', z', q0, q1, q2⟩, _, _⟩ := hI2
            have hq := (q1).1
            clear q0 q1 q2
            replace hK := hide hK
            replace hI := hide hI
            rw [e0]
            replace e0 := hide e0
            go_wp2_with fail
            replace hK := hK.out (.int .i64 y')
            simp only [Act.put, List.setIfInBounds_toArray, List.set_cons_zero, List.set_cons_succ, e0.out] at hK
            exact hK _ (hI.out) (Wrt.pure (World.grownBy.refl _ _)) (⟨_, rfl⟩)
          refine MOpsF.op (fun vs wx m k hmj hcl hI hk hf K hK => ?_) ?_
          · obtain ⟨r0, e0⟩ := hf 9 (by decide) (by kernel_rfl)
            clear hf hcl
            replace hK := hide hK
            rw [e0]
            replace e0 := hide e0
            go_wp2_with fail
            replace hK := hK.out (.slice (some ⟨wx.heap.size, 0, none⟩) 4 4)
            simp only [Act.put, List.setIfInBounds_toArray, List.set_cons_zero, List.set_cons_succ, e0.out] at hK
            exact hK _ ((hI.al _)) (Wrt.pure (gr_alloc (World.grownBy.refl _ _) _)) (⟨wx.heap.size, [r0, 1, -1, 9], rfl, rfl, sl_intsAt _ _ _ _ _ rfl hI.2.2.1 (by simp [maxLen])⟩)
          refine MOpsF.op (fun vs wx m k hmj hcl hI hk hf K hK => ?_) ?_
          · obtain ⟨g, ll, e1, hll, hsl⟩ := hf 10 (by decide) (by kernel_rfl)
            have e0 : vs 7 = .pointer (some ⟨b, 0, none⟩) := hf 7 (by decide) (by kernel_rfl)
            clear hf hcl
            have hk2 : k + 1 ≤ 3 := hk
            clear hk
            replace hK := hide hK
            rw [e0, e1]
            replace e0 := hide e0
            replace e1 := hide e1
            go_wp2_with fail
            refine (pick_any b (NN + k) _ _ _ ll _ hI.1.2 (by omega) (hsl.mono (by omega)) hll (by simp)).mono ?_
            rintro e wy ⟨r, rfl, _, hoy⟩
            go_wp2_with fail
            replace hK := hK.out (.int .i64 r)
            simp only [Act.put, List.setIfInBounds_toArray, List.set_cons_zero, List.set_cons_succ, e0.out, e1.out] at hK
            exact hK _ ((hI.st ⟨by omega, hbw⟩ 1 hoy)) (Wrt.one hoy.1 (.inl rfl)) (⟨r, rfl⟩)
          refine MOpsF.op (fun vs wx m k hmj hcl hI hk hf K hK => ?_) ?_
          · clear hf hcl
            replace hK := hide hK
            replace hI := hide hI
            go_wp2_with fail
            replace hK := hK.out (.pointer (some ⟨b, 0, none⟩))
            simp only [Act.put, List.setIfInBounds_toArray, List.set_cons_zero, List.set_cons_succ, Nat.add_zero] at hK
            exact hK _ (hI.out) (Wrt.pure (World.grownBy.refl _ _)) (rfl)
          refine MOpsF.op (fun vs wx m k hmj hcl hI hk hf K hK => ?_) ?_
          · have e0 : vs 12 = .pointer (some ⟨b, 0, none⟩) := hf 12 (by decide) (by kernel_rfl)
            clear hf hcl
            have hk2 : k + 1 ≤ 3 := hk
            clear hk
            replace hK := hide hK
            rw [e0]
            replace e0 := hide e0
            go_wp2_with fail
            refine (flip_any b (NN + k) _ _ hI.1.2 (by omega) (by omega)).mono ?_
            rintro e wy ⟨r, rfl, hoy⟩
            go_wp2_with fail
            replace hK := hK.out (.bool r)
            simp only [Act.put, List.setIfInBounds_toArray, List.set_cons_zero, List.set_cons_succ, e0.out] at hK
            exact hK _ ((hI.st ⟨by omega, hbw⟩ 1 hoy)) (Wrt.one hoy.1 (.inl rfl)) (⟨r, rfl⟩)
          refine MOpsF.op (fun vs wx m k hmj hcl hI hk hf K hK => ?_) ?_
          · clear hf hcl
            replace hK := hide hK
            replace hI := hide hI
            go_wp2_with fail
            replace hK := hK.out (.pointer (some ⟨w.heap.size + 1, 0, none⟩))
            simp only [Act.put, List.setIfInBounds_toArray, List.set_cons_zero, List.set_cons_succ, Nat.add_zero] at hK
            exact hK _ (hI.out) (Wrt.pure (World.grownBy.refl _ _)) (rfl)
          refine MOpsF.op (fun vs wx m k hmj hcl hI hk hf K hK => ?_) ?_
          · obtain ⟨r, e0⟩ := hf 6 (by decide) (by kernel_rfl)
            have e1 : vs 14 = .pointer (some ⟨w.heap.size + 1, 0, none⟩) := hf 14 (by decide) (by kernel_rfl)
            clear hf hcl
            obtain ⟨a1, ⟨x', y', z', q0, q1, q2⟩, a3, a4, a5, a6⟩ := hI
            obtain ⟨hq, hqf⟩ := id q0
            have hgw := gr_set (r := some (w.heap.size + 1)) (p := ⟨w.heap.size + 1, 0, none⟩) (World.grownBy.refl wx _) (.inl rfl) (.int .i64 r)
            replace hK := hide hK
            rw [e0, e1]
            replace e0 := hide e0
            replace e1 := hide e1
            go_wp2_with fail
            replace hK := hK.out undef
            simp only [Act.put, List.setIfInBounds_toArray, List.set_cons_zero, List.set_cons_succ, e0.out, e1.out] at hK
            exact hK _ (⟨a1.set hbw (Nat.le_succ _) _, ⟨r, y', z', q0.set_ _, q1.set_ne _ (by decide), q2.set_ne _ (by decide)⟩, by rw [heap_set]; exact a3, a4.gr hgw (by simp), a5.gr hgw (by simp), a6.gr hgw (by simp)⟩) (Wrt.one hgw (.inr rfl)) (trivial)
          refine MOpsF.op (fun vs wx m k hmj hcl hI hk hf K hK => ?_) ?_
          · clear hf hcl
            replace hK := hide hK
            replace hI := hide hI
            go_wp2_with fail
            replace hK := hK.out (.pointer (some ⟨w.heap.size + 1, 1, none⟩))
            simp only [Act.put, List.setIfInBounds_toArray, List.set_cons_zero, List.set_cons_succ, Nat.add_zero] at hK
            exact hK _ (hI.out) (Wrt.pure (World.grownBy.refl _ _)) (rfl)
          refine MOpsF.op (fun vs wx m k hmj hcl hI hk hf K hK => ?_) ?_
          · obtain ⟨r, e0⟩ := hf 11 (by decide) (by kernel_rfl)
            have e1 : vs 16 = .pointer (some ⟨w.heap.size + 1, 1, none⟩) := hf 16 (by decide) (by kernel_rfl)
            clear hf hcl
            obtain ⟨a1, ⟨x', y', z', q0, q1, q2⟩, a3, a4, a5, a6⟩ := hI
            obtain ⟨hq, hqf⟩ := id q1
            have hgw := gr_set (r := some (w.heap.size + 1)) (p := ⟨w.heap.size + 1, 1, none⟩) (World.grownBy.refl wx _) (.inl rfl) (.int .i64 r)
            replace hK := hide hK
            rw [e0, e1]
            replace e0 := hide e0
            replace e1 := hide e1
            go_wp2_with fail
            replace hK := hK.out undef
            simp only [Act.put, List.setIfInBounds_toArray, List.set_cons_zero, List.set_cons_succ, e0.out, e1.out] at hK
            exact hK _ (⟨a1.set hbw (Nat.le_succ _) _, ⟨x', r, z', q0.set_ne _ (by decide), q1.set_ _, q2.set_ne _ (by decide)⟩, by rw [heap_set]; exact a3, a4.gr hgw (by simp), a5.gr hgw (by simp), a6.gr hgw (by simp)⟩) (Wrt.one hgw (.inr rfl)) (trivial)
          refine MOpsF.op (fun vs wx m k hmj hcl hI hk hf K hK => ?_) ?_
          · clear hf hcl
            replace hK := hide hK
            replace hI := hide hI
            go_wp2_with fail
            replace hK := hK.out (.pointer (some ⟨w.heap.size + 1, 2, none⟩))
            simp only [Act.put, List.setIfInBounds_toArray, List.set_cons_zero, List.set_cons_succ, Nat.add_zero] at hK
            exact hK _ (hI.out) (Wrt.pure (World.grownBy.refl _ _)) (rfl)
          refine MOpsF.op (fun vs wx m k hmj hcl hI hk hf K hK => ?_) ?_
          · obtain ⟨r, e0⟩ := hf 13 (by decide) (by kernel_rfl)
            have e1 : vs 18 = .pointer (some ⟨w.heap.size + 1, 2, none⟩) := hf 18 (by decide) (by kernel_rfl)
            clear hf hcl
            obtain ⟨a1, ⟨x', y', z', q0, q1, q2⟩, a3, a4, a5, a6⟩ := hI
            obtain ⟨hq, hqf⟩ := id q2
            have hgw := gr_set (r := some (w.heap.size + 1)) (p := ⟨w.heap.size + 1, 2, none⟩) (World.grownBy.refl wx _) (.inl rfl) (.bool r)
            replace hK := hide hK
            rw [e0, e1]
            replace e0 := hide e0
            replace e1 := hide e1
            go_wp2_with fail
            replace hK := hK.out undef
            simp only [Act.put, List.setIfInBounds_toArray, List.set_cons_zero, List.set_cons_succ, e0.out, e1.out] at hK
            exact hK _ (⟨a1.set hbw (Nat.le_succ _) _, ⟨x', y', r, q0.set_ne _ (by decide), q1.set_ne _ (by decide), q2.set_ _⟩, by rw [heap_set]; exact a3, a4.gr hgw (by simp), a5.gr hgw (by simp), a6.gr hgw (by simp)⟩) (Wrt.one hgw (.inr rfl)) (trivial)
          exact MOpsF.done
        case iv3 =>
        intro vs w7 m hm' hI hf
        obtain ⟨a1, ⟨x', y', z', J0', J1', J2'⟩, _, K0', K1', K2'⟩ := hI
        clear hf hm' K0 K1 K2 J0 J1 J2 hG
        have hG : SOut b (N + 10) w w7 := a1.mono (by have := hNN.out; simp; omega)
        have K0 := K0'
        have K1 := K1'
        have K2 := K2'
        have J0 := J0'
        have J1 := J1'
        have J2 := J2'
        clear K0' K1' K2' J0' J1' J2' a1
        obtain ⟨k0, f0⟩ := K0
        obtain ⟨k1, f1⟩ := K1
        obtain ⟨k2, f2⟩ := K2
        obtain ⟨j0, -⟩ := J0
        obtain ⟨j1, -⟩ := J1
        obtain ⟨j2, -⟩ := J2
        go_wp2_with fail
        refine bodyPost_ret (v := .agg #[.int .i64 x', .int .i64 y', .bool z']) (by simp [results, Try.results8, go_sem, k0, k1, k2, f0, f1, f2]) rfl ⟨⟨x', y', z'⟩, rfl, ?_⟩
        exact (((hG.mono (show _ ≤ N + 10 by omega)).set hbw (Nat.le_refl _) _).set hbw (Nat.le_refl _) _).set hbw (Nat.le_refl _) _

end Go.Proofs.Ytcaaephphefncaa

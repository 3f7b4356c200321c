/- Contracts of functions that this seat's laws reach, each: what one call returns and what it leaves in memory; no condition beyond each theorem's own hypotheses. -/
import Derived.Test.YtfleljmmfkkkpaaGreatDoorZqTabS
import Derived.Test.YtfleljmmfkkkpaaGreatDoorZqFarmA
import Derived.Shelf.Strings.SlTrimAscii
import Derived.Shelf.Strings.Split
set_option linter.unusedVariables false
set_option linter.unusedSimpArgs false
namespace Go.Proofs.YtfleljmmfkkkpaaGreatDoor
open Go Go.RowKit Go.Bl

theorem dig_mem (b : UInt8) : ([48, 49, 50, 51, 52, 53, 54, 55, 56, 57] : List UInt8).contains b = isDig b := by
  unfold isDig
  rw [Bool.eq_iff_iff]
  simp only [List.contains_eq_mem, decide_eq_true_eq, Bool.and_eq_true, List.mem_cons, List.not_mem_nil, or_false]
  constructor
  · rintro (rfl | rfl | rfl | rfl | rfl | rfl | rfl | rfl | rfl | rfl) <;> decide
  · intro h
    have e : ∀ n : Nat, n < 256 → b.toNat = n → b = UInt8.ofNat n := fun n _ e => by rw [← e]; simp
    rcases (by omega : b.toNat = 48 ∨ b.toNat = 49 ∨ b.toNat = 50 ∨ b.toNat = 51 ∨ b.toNat = 52 ∨ b.toNat = 53 ∨ b.toNat = 54 ∨ b.toNat = 55 ∨ b.toNat = 56 ∨ b.toNat = 57) with h | h | h | h | h | h | h | h | h | h <;> rw [e _ (by omega) h] <;> decide

theorem mkB_size (l : List UInt8) : (mkB l).size = l.length := rfl

theorem mkB_toList (l : List UInt8) : (mkB l).toList = l := by rw [Lib.toList_data]; rfl

theorem trimDigs_any (s : ByteArray) (w : World) (hs : s.size ≤ 9223372036854775807) :
    Calls Tryz.prog 65 #[.string s, .string ⟨#[48, 49, 50, 51, 52, 53, 54, 55, 56, 57]⟩] w fun e w' => ∃ T : ByteArray, e = .returned (.string T) ∧ T.toList.isEmpty = s.data.toList.all isDig ∧ w.grownBy w' none := by
  refine (Any.strings_Trim_laid Tryz.lays160 (by kernel_rfl) s _ w hs (by decide) (ascii_of_all (by decide))).mono ?_
  rintro e w' ⟨rfl, hb⟩
  refine ⟨_, rfl, ?_, gr_below hb⟩
  rw [Lib.toList_data]
  show (Lib.trimS s.data.toList [48, 49, 50, 51, 52, 53, 54, 55, 56, 57]).isEmpty = _
  rw [trimS_empty]
  congr 1
  funext b
  exact dig_mem b

theorem trim_dash (l : List UInt8) : Lib.trimPrefix l [45] = bodyB l ∧ Lib.hasPrefix l [45] = negB l := by
  unfold Lib.trimPrefix Lib.hasPrefix bodyB negB
  cases l with
  | nil => exact ⟨rfl, rfl⟩
  | cons b r =>
    have e : ([45] : List UInt8).isPrefixOf (b :: r) = ((b :: r).head? == some 45) := by
      simp only [List.isPrefixOf, List.head?_cons, Bool.and_true]
      rw [Bool.eq_iff_iff]; simp; exact eq_comm
    rw [e]
    exact ⟨rfl, rfl⟩

theorem cutDash_any (s : ByteArray) (w : World) :
    Calls Tryz.prog 71 #[.string s, .string ⟨#[45]⟩] w fun e w' => e = .returned (.tuple #[.string (mkB (bodyB s.data.toList)), .bool (negB s.data.toList)]) ∧ w' = w := by
  have h := Tryz.strings_CutPrefix s ⟨#[45]⟩ w
  rw [show (⟨#[45]⟩ : ByteArray).data.toList = [45] from rfl, (trim_dash _).1, (trim_dash _).2] at h
  exact h

theorem gr_freeze (w : World) (p : Addr) (n : Nat) : w.grownBy (w.freeze p n) (some p.block) := by
  unfold World.freeze
  split
  · exact World.grownBy.refl _ _
  · refine ⟨rfl, rfl, rfl, by simp, fun i hi hne => ?_⟩
    simp only [Array.getElem?_modify]
    rw [if_neg (fun e => hne (by rw [e]))]

theorem gr_bytesWorld (w : World) (t : TypeId) (k : ByteArray) : w.grownBy (Lib.bytesWorld w t k) none := by
  unfold Lib.bytesWorld
  exact gr_new (gr_alloc (gr_drew (World.grownBy.refl _ _)) _) (gr_freeze _ _ _) (Nat.le_refl _)

theorem row_strT (w : World) (lo : Nat) : ∀ l : List ByteArray, Row w lo l (l.map Value.string)
  | [] => rfl
  | x :: l => ⟨[.string x], _, rfl, rfl, row_strT w lo l⟩

theorem split_any (s : ByteArray) (c : UInt8) (w : World) (hs : s.size < 4294967281) :
    Calls Tryz.prog 46 #[.string s, .string ⟨#[c]⟩] w fun e w' => e = .returned (.slice (some ⟨w.heap.size, 0, none⟩) (piecesB c s).length (piecesB c s).length) ∧ Sl w' w.heap.size (some ⟨w.heap.size, 0, none⟩) (piecesB c s) ∧ w.grownBy w' none := by
  have L := Tryz.lays146
  have h1 : 1 ≤ (⟨#[c]⟩ : ByteArray).size := Nat.le_refl 1
  have hle := Lib.countB_le ⟨#[c]⟩ h1 s.size s (Nat.le_refl _)
  have hlen := Lib.splitB_all ⟨#[c]⟩ h1 0 _ s rfl
  have hidx : ∀ x : ByteArray, Lib.indexB x ⟨#[c]⟩ = Lib.indexByte x.data.toList c := fun x => Lib.index_one x.data.toList c
  have hcnt : Lib.countB s ⟨#[c]⟩ = Lib.countByte s.data.toList c := Lib.count_one c s.data.toList
  have c1 := Any.strings_genSplit_core { L with } (by kernel_rfl) s ⟨#[c]⟩ 0 (-1) (Lib.countB s ⟨#[c]⟩ + 1) w hs h1 (Nat.zero_le _)
    (fun x cc hx => (Tryz.strings_Index_one x c _).mono fun e w' ⟨he, hw⟩ => ⟨by rw [he, hidx], hw⟩)
    ((Tryz.strings_Count_one s c w).mono fun e w' ⟨he, hw⟩ => ⟨by rw [he, hcnt], hw⟩) (by decide) (by decide) (by rw [if_pos (by decide)]; omega)
  rw [Nat.add_sub_cancel, hlen] at c1
  have e2 : Lib.cellsOf (Lib.splitB ⟨#[c]⟩ 0 (Lib.countB s ⟨#[c]⟩) s) (Lib.countB s ⟨#[c]⟩ + 1) = ((Lib.splitB ⟨#[c]⟩ 0 (Lib.countB s ⟨#[c]⟩) s).map Value.string).toArray := by rw [← hlen]; exact Lib.cellsOf_full _
  rw [e2, ← hlen, splitB_pieces] at c1
  have hm : (piecesB c s).length ≤ maxLen := by rw [← splitB_pieces, hlen]; unfold maxLen; omega
  have c2 : Calls Tryz.prog 70 #[.string s, .string ⟨#[c]⟩, .int .i64 0, .int .i64 (-1)] w fun e w' => e = .returned (.slice (some ⟨w.heap.size, 0, none⟩) (piecesB c s).length (piecesB c s).length) ∧ w' = w.alloc (.cells ((piecesB c s).map Value.string).toArray 9) := c1
  go_enter Tryz.func46, Tryz.ntmps46
  go_wp2_with fail
  refine c2.mono ?_
  rintro e w' ⟨rfl, rfl⟩
  go_wp2_with fail
  go_ret
  exact ⟨rfl, sl_lit w w.heap.size _ _ _ (Nat.le_refl _) hm (row_strT _ _ _), gr_alloc (World.grownBy.refl _ _) _⟩

end Go.Proofs.YtfleljmmfkkkpaaGreatDoor

namespace Go.Proofs.YtfleljmmfkkkpaaGreatDoor
open Go Go.RowKit Go.Bl

theorem body_len (s : List UInt8) : (bodyB s).length ≤ s.length := by
  unfold bodyB
  split
  · simp
  · exact Nat.le_refl _

theorem mkB_emp (l : List UInt8) : (mkB l).toList.isEmpty = l.isEmpty := by rw [mkB_toList]

set_option maxHeartbeats 1000000 in
theorem kitNumber_any (s : ByteArray) (w : World) (hs : s.size ≤ 9223372036854775807) :
    Calls Tryz.prog 48 #[.string s, .int .i64 15] w fun e w' => e = .returned (.tuple #[.int .i64 ((numK s.data.toList).getD 0), .bool (numK s.data.toList).isSome]) ∧ w.grownBy w' none := by
  have hbl := body_len s.data.toList
  have hsl := Lib.size_eq s
  obtain ⟨d, hd⟩ : ∃ d, bodyB s.data.toList = d := ⟨_, rfl⟩
  obtain ⟨ng, hng⟩ : ∃ b, negB s.data.toList = b := ⟨_, rfl⟩
  have hcut := cutDash_any s w
  rw [hd, hng] at hcut
  rw [hd] at hbl
  have hemp := mkB_emp d
  have hsz := mkB_size d
  have no : digsOk s.data.toList = false ∨ zeroB s.data.toList = true → numK s.data.toList = none := by
    rintro (h | h) <;> unfold numK <;> rw [h] <;> simp
  have yes : digsOk s.data.toList = true → zeroB s.data.toList = false → numK s.data.toList = some (numV s.data.toList) := by
    intro h1 h2; unfold numK; rw [h1, h2]; rfl
  by_cases h0 : d = []
  · have hk : numK s.data.toList = none := no (.inl (by unfold digsOk; rw [hd, h0]; rfl))
    rw [hk]
    subst h0
    simp only [List.isEmpty_nil] at hemp
    clear no yes
    replace hd := hide hd
    go_enter Tryz.func48, Tryz.ntmps48
    go_wp2_with fail
    refine hcut.mono ?_
    rintro e w1 ⟨rfl, rfl⟩
    clear hcut
    go_wp2_with fail
    all_goals (go_ret2; exact ⟨rfl, World.grownBy.refl _ _⟩)
  have hne : d.isEmpty = false := by cases d with
    | nil => exact absurd rfl h0
    | cons => rfl
  rw [hne] at hemp
  by_cases h15 : 15 < d.length
  · have hk : numK s.data.toList = none := no (.inl (by unfold digsOk; rw [hd]; simp; intros; omega))
    rw [hk]
    have hl : decide ((d.length : Int) > 15) = true := by simp; omega
    clear no yes
    replace hd := hide hd
    go_enter Tryz.func48, Tryz.ntmps48
    go_wp2_with fail
    refine hcut.mono ?_
    rintro e w1 ⟨rfl, rfl⟩
    clear hcut
    go_wp2_with fail
    all_goals (go_ret2; exact ⟨rfl, World.grownBy.refl _ _⟩)
  have hl : decide ((d.length : Int) > 15) = false := by simp; omega
  have htr := trimDigs_any (mkB d) w (by rw [mkB_size]; omega)
  rw [mkB_data] at htr
  by_cases hdg : d.all isDig = true
  · rw [hdg] at htr
    have hok : digsOk s.data.toList = true := by unfold digsOk; rw [hd, hne, hdg]; simp; omega
    obtain ⟨c, t, hct⟩ : ∃ c t, d = c :: t := by cases d with
      | nil => exact absurd rfl h0
      | cons c t => exact ⟨c, t, rfl⟩
    have hlt : 0 < (mkB d).size := by rw [mkB_size, hct]; simp
    have hc0 : (mkB d)[0] = c := by
      subst hct; rfl
    have hat := Tryz.strconv_Atoi (mkB d) (magB s.data.toList) (by rw [mkB_size]; omega) (by rw [mkB_data, ← hd]; exact atoi_body hok)
    have hmb := mag_lt hok
    have hzz : zeroB s.data.toList = (decide (c.toNat = 48) && (decide (1 < d.length) || ng)) := by
      unfold zeroB
      rw [hd, hng, hct]
      congr 1
      simp only [List.head?_cons]
      rw [Bool.eq_iff_iff]
      simp only [beq_iff_eq, Option.some.injEq, decide_eq_true_eq]
      constructor
      · rintro rfl; rfl
      · intro h; apply UInt8.toNat_inj.1; rw [h]; rfl
    have hnum : numV s.data.toList = if ng then -(magB s.data.toList : Int) else magB s.data.toList := by unfold numV; rw [hng]
    replace hd := hide hd
    replace hok := hide hok
    replace hct := hide hct
    replace hzz := hide hzz
    replace hnum := hide hnum
    replace hng := hide hng
    replace no := hide no
    replace yes := hide yes
    clear hdg
    obtain ⟨m, hm⟩ : ∃ m, magB s.data.toList = m := ⟨_, rfl⟩
    rw [hm] at hat hmb hnum
    replace hm := hide hm
    by_cases hc48 : c.toNat = 48
    · have hz : (((mkB d)[0].toNat : Int) == 48) = true := by rw [hc0]; simp; omega
      rw [hc48] at hzz
      clear hc0 hc48
      cases ng with
      | true =>
        rw [no.out (.inr (by rw [hzz.out]; simp))]
        go_enter Tryz.func48, Tryz.ntmps48
        go_wp2_with fail
        refine hcut.mono ?_
        rintro e w1 ⟨rfl, rfl⟩
        clear hcut
        go_wp2_with fail
        refine htr.mono ?_
        rintro e w2 ⟨T, rfl, hT, hg⟩
        clear htr
        go_wp2_with fail
        all_goals (go_ret2; exact ⟨rfl, hg⟩)
      | false =>
        by_cases h1 : 1 < d.length
        · have hl1 : decide ((d.length : Int) > 1) = true := by simp; omega
          rw [no.out (.inr (by rw [hzz.out]; simp [h1]))]
          go_enter Tryz.func48, Tryz.ntmps48
          go_wp2_with fail
          refine hcut.mono ?_
          rintro e w1 ⟨rfl, rfl⟩
          clear hcut
          go_wp2_with fail
          refine htr.mono ?_
          rintro e w2 ⟨T, rfl, hT, hg⟩
          clear htr
          go_wp2_with fail
          all_goals (go_ret2; exact ⟨rfl, hg⟩)
        · have hl1 : decide ((d.length : Int) > 1) = false := by simp; omega
          rw [yes.out hok.out (by rw [hzz.out]; simp [h1]), hnum.out]
          go_enter Tryz.func48, Tryz.ntmps48
          go_wp2_with fail
          refine hcut.mono ?_
          rintro e w1 ⟨rfl, rfl⟩
          clear hcut
          go_wp2_with fail
          refine htr.mono ?_
          rintro e w2 ⟨T, rfl, hT, hg⟩
          clear htr
          go_wp2_with fail
          refine (hat _).mono ?_
          rintro e w3 ⟨rfl, t, rfl⟩
          have hg3 := hg.t (gr_bytesWorld w2 5 t)
          clear hat
          go_wp2_with fail
          go_quiet (fail)
          go_wp2
          go_ret2
          exact ⟨rfl, gr_drewN hg3 _⟩
    · have hz : (((mkB d)[0].toNat : Int) == 48) = false := by rw [hc0, beq_eq_false_iff_ne]; omega
      have hy := yes.out hok.out (by rw [hzz.out, decide_eq_false hc48]; rfl)
      rw [hy, hnum.out]
      clear hc0 hc48 hy
      cases ng with
      | true =>
        go_enter Tryz.func48, Tryz.ntmps48
        go_wp2_with fail
        refine hcut.mono ?_
        rintro e w1 ⟨rfl, rfl⟩
        clear hcut
        go_wp2_with fail
        refine htr.mono ?_
        rintro e w2 ⟨T, rfl, hT, hg⟩
        clear htr
        go_wp2_with fail
        refine (hat _).mono ?_
        rintro e w3 ⟨rfl, t, rfl⟩
        have hg3 := hg.t (gr_bytesWorld w2 5 t)
        clear hat
        go_wp2_with fail
        go_quiet (fail)
        go_wp2
        go_ret2
        exact ⟨rfl, gr_drewN hg3 _⟩
      | false =>
        go_enter Tryz.func48, Tryz.ntmps48
        go_wp2_with fail
        refine hcut.mono ?_
        rintro e w1 ⟨rfl, rfl⟩
        clear hcut
        go_wp2_with fail
        refine htr.mono ?_
        rintro e w2 ⟨T, rfl, hT, hg⟩
        clear htr
        go_wp2_with fail
        refine (hat _).mono ?_
        rintro e w3 ⟨rfl, t, rfl⟩
        have hg3 := hg.t (gr_bytesWorld w2 5 t)
        clear hat
        go_wp2_with fail
        go_quiet (fail)
        go_wp2
        go_ret2
        exact ⟨rfl, gr_drewN hg3 _⟩
  · have hdg2 : d.all isDig = false := by simpa using hdg
    have hk : numK s.data.toList = none := no (.inl (by unfold digsOk; rw [hd, hdg2]; simp))
    rw [hk]
    rw [hdg2] at htr
    clear no yes hdg
    replace hd := hide hd
    go_enter Tryz.func48, Tryz.ntmps48
    go_wp2_with fail
    refine hcut.mono ?_
    rintro e w1 ⟨rfl, rfl⟩
    clear hcut
    go_wp2_with fail
    refine htr.mono ?_
    rintro e w2 ⟨T, rfl, hT, hg⟩
    clear htr
    go_wp2_with fail
    all_goals (go_ret2; exact ⟨rfl, hg⟩)

end Go.Proofs.YtfleljmmfkkkpaaGreatDoor

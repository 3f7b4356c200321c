/- Contracts of functions that this seat's laws reach, each: what one call returns and what it leaves in memory; no condition beyond each theorem's own hypotheses. -/
import Derived.Test.YtkcchcnljanloaaGreatZqMeshCA
import Derived.Test.YtkcchcnljanloaaGreatZqVolLaw
set_option linter.unusedVariables false
set_option linter.unusedSimpArgs false
namespace Go.Proofs.YtkcchcnljanloaaGreat
open Go.RowKit Go.Bl

theorem info_bool : (Tryz.prog.info? 4).map (fun i => (i.zero, i.size, i.bytes)) = some (some (.bool false), 1, 1) := by kernel_rfl

/-- whether a face has the vertex i -/
def hasI (i : Nat) (f : Fc) : Bool := decide (f.a = (i : Int)) || decide (f.b = (i : Int)) || decide (f.c = (i : Int))

def useL (n : Nat) (fs : List Fc) : List Bool := (List.range n).map fun i => fs.any (hasI i)

theorem useL_len (n : Nat) (fs : List Fc) : (useL n fs).length = n := by simp [useL]

theorem useL_at {n : Nat} {fs : List Fc} {i : Nat} (h : i < (useL n fs).length) : (useL n fs)[i] = fs.any (hasI i) := by simp [useL]

theorem useL_nil (n : Nat) : useL n [] = List.replicate n false := by
  apply List.ext_getElem
  · simp [useL]
  · intro i h1 h2; simp [useL]

/-- while a face's vertices are marked -/
def UsI (gu gf lo n ia ib ic : Nat) (L : List Bool) (W : World) (m : Nat → Bool) (_ : Nat) (w : World) : Prop :=
  W.grownBy w (some gu) ∧ (Cell w gf 0 (.int .i64 ia) ∧ Cell w gf 1 (.int .i64 ib) ∧ Cell w gf 2 (.int .i64 ic)) ∧
    ∃ l : List Bool, ∃ hl : l.length = n, ∃ hL : L.length = n, Own w lo 4 (some ⟨gu, 0, none⟩) n l ∧ ∀ i (hi : i < n), l[i]'(by omega) = (L[i]'(by omega) || (m 10 && decide (i = ia)) || (m 12 && decide (i = ib)) || (m 14 && decide (i = ic)))
section
variable {gu gf lo n ia ib ic k : Nat} {L : List Bool} {W w w' : World} {m : Nat → Bool}

theorem UsI.same (h : UsI gu gf lo n ia ib ic L W m k w) {j : Nat} (h1 : (10 == j) = false) (h2 : (12 == j) = false) (h3 : (14 == j) = false) : UsI gu gf lo n ia ib ic L W (setm m j) k w := by
  unfold UsI
  rw [setm_ne h1, setm_ne h2, setm_ne h3]
  exact h

theorem UsI.cell (h : UsI gu gf lo n ia ib ic L W m k w) {i : Nat} (hi : i < n) : (∃ b, w.cell? ⟨gu, i, none⟩ = some (.bool b)) ∧ w.frozen? ⟨gu, i, none⟩ = false := by
  obtain ⟨_, _, l, hl, hL, ho, _⟩ := h
  exact ⟨⟨_, ho.cell_bool (by omega)⟩, ho.frozen i⟩

theorem UsI.set_ (h : UsI gu gf lo n ia ib ic L W m k w) (hlo : lo ≤ gu ∧ gf ≠ gu) {i j : Nat} (hi : i < n)
    (hm : ∀ x, x < n → ((setm m j) 10 && decide (x = ia) || (setm m j) 12 && decide (x = ib) || (setm m j) 14 && decide (x = ic)) = ((m 10 && decide (x = ia) || m 12 && decide (x = ib) || m 14 && decide (x = ic)) || decide (x = i))) :
    UsI gu gf lo n ia ib ic L W (setm m j) k (w.setCell ⟨gu, i, none⟩ (.bool true)) := by
  obtain ⟨h1, ⟨c0, c1, c2⟩, l, hl, hL, ho, hv⟩ := h
  have hg := gr_set (World.grownBy.refl w (some gu)) (p := ⟨gu, i, none⟩) (.inl rfl) (.bool true)
  refine ⟨gr_trans h1 hg, ⟨c0.gr hg (fun e => by injection e with e; exact hlo.2 e.symm), c1.gr hg (fun e => by injection e with e; exact hlo.2 e.symm), c2.gr hg (fun e => by injection e with e; exact hlo.2 e.symm)⟩, l.set i true, by rw [List.length_set]; exact hl, hL, ho.set_bool (by omega) true, fun x hx => ?_⟩
  have := hm x hx
  rw [List.getElem_set, Bool.or_assoc, Bool.or_assoc, ← Bool.or_assoc (_ && _), this]
  by_cases e : i = x
  · subst e; simp
  · rw [if_neg e, hv x hx]
    simp [show ¬ x = i from fun h => e h.symm, Bool.or_assoc]

theorem UsI.st0 (h : UsI gu gf lo n ia ib ic L W m k w) (hlo : lo ≤ gu ∧ gf ≠ gu) (hi : ia < n) : UsI gu gf lo n ia ib ic L W (setm m 10) k (w.setCell ⟨gu, ia, none⟩ (.bool true)) :=
  h.set_ hlo hi (fun x _ => by rw [setm_eq, setm_ne (by decide), setm_ne (by decide)]; cases m 10 <;> cases decide (x = ia) <;> simp)

theorem UsI.st1 (h : UsI gu gf lo n ia ib ic L W m k w) (hlo : lo ≤ gu ∧ gf ≠ gu) (hi : ib < n) : UsI gu gf lo n ia ib ic L W (setm m 12) k (w.setCell ⟨gu, ib, none⟩ (.bool true)) :=
  h.set_ hlo hi (fun x _ => by rw [setm_eq, setm_ne (by decide), setm_ne (by decide)]; cases m 12 <;> cases decide (x = ib) <;> simp)

theorem UsI.st2 (h : UsI gu gf lo n ia ib ic L W m k w) (hlo : lo ≤ gu ∧ gf ≠ gu) (hi : ic < n) : UsI gu gf lo n ia ib ic L W (setm m 14) k (w.setCell ⟨gu, ic, none⟩ (.bool true)) :=
  h.set_ hlo hi (fun x _ => by rw [setm_eq, setm_ne (by decide), setm_ne (by decide)]; cases m 14 <;> cases decide (x = ic) <;> simp)
end

theorem useL_step {n : Nat} {fs : List Fc} {k : Nat} (hk : k < fs.length) {ia ib ic : Nat} (he : fs[k] = ⟨ia, ib, ic⟩) {l : List Bool} (hl : l.length = n) (hL : (useL n (fs.take k)).length = n)
    (h : ∀ i (hi : i < n), l[i]'(by omega) = ((useL n (fs.take k))[i]'(by omega) || (true && decide (i = ia)) || (true && decide (i = ib)) || (true && decide (i = ic)))) : l = useL n (fs.take (k + 1)) := by
  apply List.ext_getElem
  · rw [hl, useL_len]
  · intro i h1 h2
    rw [h i (by omega), useL_at, useL_at, take_snoc hk, List.any_append, he]
    simp only [List.any_cons, List.any_nil, Bool.or_false, Bool.true_and, hasI, Bool.or_assoc]
    congr 2
    · simp only [decide_eq_decide]; omega
    · congr 1
      · simp only [decide_eq_decide]; omega
      · simp only [decide_eq_decide]; omega

set_option maxHeartbeats 4000000 in
set_option maxRecDepth 100000 in
theorem usedGo_any (A : Option Addr) (c : Nat) (n : Nat) (B : Option Addr) (d : Nat) (fs : List Fc) (w : World) (hfs : Sl w 0 B fs) (hin : ∀ f ∈ fs, inF n f = true) (hn : n ≤ 1000) (hfl : fs.length ≤ 2000) :
    Calls Tryz.prog 64 #[.agg #[.slice A n c, .slice B fs.length d]] w fun e w' => ∃ g : Nat, e = .returned (.slice (some ⟨g, 0, none⟩) n n) ∧ Own w' w.heap.size 4 (some ⟨g, 0, none⟩) n (useL n fs) ∧ w.grownBy w' none := by
  obtain ⟨i0, hi, hz, h1, h2⟩ := info_parts info_bool
  obtain ⟨w1, hrun, hown, hg1⟩ := run_makeOwn (P := Tryz.prog) (w.alloc (.cells #[.slice A n c, .slice B fs.length d] 29)) 99 4 i0 _ false Tryz.underlying99 hi hz h1 rfl rfl .i64 .i64 n (by rw [h2]; omega) (by simp [maxLen]; omega)
  have hsz : (w.alloc (.cells #[.slice A n c, .slice B fs.length d] 29)).heap.size = w.heap.size + 1 := by simp
  rw [hsz] at hrun hown
  rw [← useL_nil] at hown
  have b1 := hg1.k (Cell.new w [.slice A n c, .slice B fs.length d] 29 1 _ rfl _ rfl).1
  have hgw := gr_trans (gr_alloc (r := none) (World.grownBy.refl w none) (.cells #[.slice A n c, .slice B fs.length d] 29)) hg1
  have hlt1 : w.heap.size + 1 < w1.heap.size := (hown.blk_lt (g := w.heap.size + 1) rfl).2
  clear hg1 hsz h1 h2 hz hi
  replace hin := hide hin
  go_enter Tryz.func64, Tryz.ntmps64
  go_wp2_with fail
  clear hrun
  go_loopw [13] (fun i wr => ∃ (k : Nat), k ≤ fs.length ∧ i = .int .i64 k ∧ Own wr (w.heap.size + 1) 4 (some ⟨w.heap.size + 1, 0, none⟩) n (useL n (fs.take k)) ∧ w1.grownBy wr (some (w.heap.size + 1))) (fun i _ => fs.length - (intOf i).toNat)
  case atStart => exact ⟨0, by omega, rfl, hown, World.grownBy.refl _ _⟩
  case round =>
    clear hown
    obtain ⟨k, hk, rfl, hown, hg⟩ := hrel
    have hgr : w.grownBy wr none := gr_row hgw hg (fun g e => by injection e; omega)
    have hszr := hg.size
    by_cases hlt : k < fs.length
    · obtain ⟨g, o, rfl, -, hbg, hcc⟩ := (hfs.pure hgr).fc (by omega)
      obtain ⟨x0, x1, x2⟩ := hcc k hlt
      clear hcc
      have hfi := inF_bd (hin.out _ (List.getElem_mem hlt))
      obtain ⟨ia, eia⟩ := Int.eq_ofNat_of_zero_le hfi.1.1
      obtain ⟨ib, eib⟩ := Int.eq_ofNat_of_zero_le hfi.2.1.1
      obtain ⟨ic, eic⟩ := Int.eq_ofNat_of_zero_le hfi.2.2.1
      have he : fs[k] = ⟨ia, ib, ic⟩ := fc_ext eia eib eic
      have hia : ia < n := by omega
      have hib : ib < n := by omega
      have hic : ic < n := by omega
      rw [eia] at x0
      rw [eib] at x1
      rw [eic] at x2
      obtain ⟨L, hLd⟩ : ∃ L, L = useL n (fs.take k) := ⟨_, rfl⟩
      have hst : Hid (∀ (l : List Bool) (hl : l.length = n) (hL : L.length = n), (∀ i (hi : i < n), l[i]'(by omega) = (L[i]'(by omega) || (true && decide (i = ia)) || (true && decide (i = ib)) || (true && decide (i = ic)))) → l = useL n (fs.take (k + 1))) := by
        subst hLd
        exact fun l hl hL h => useL_step hlt he hl hL h
      have hL : Hid (L.length = n) := by rw [hLd]; exact useL_len n (fs.take k)
      rw [← hLd] at hown
      replace hLd := hide hLd
      clear hfi eia eib eic he
      replace hown := hide hown
      go_upto_region 5 with fail
      have hal := gr_alloc (r := none) (World.grownBy.refl wr none) (.cells #[.int .i64 ia, .int .i64 ib, .int .i64 ic] 58)
      have y0 := Cell.new wr [.int .i64 ia, .int .i64 ib, .int .i64 ic] 58 0 _ rfl _ rfl
      have y1 := Cell.new wr [.int .i64 ia, .int .i64 ib, .int .i64 ic] 58 1 _ rfl _ rfl
      have y2 := Cell.new wr [.int .i64 ia, .int .i64 ib, .int .i64 ic] 58 2 _ rfl _ rfl
      simp only [List.toArray] at y0 y1 y2
      have hownW := hown.out.pure hal
      have hgW := gr_step hg hal
      generalize (wr.alloc (.cells #[.int .i64 ia, .int .i64 ib, .int .i64 ic] 58)) = W at *
      clear hal hown x0 x1 x2 hbg
      generalize hgf : wr.heap.size = gf at *
      obtain ⟨gu, hgu⟩ : ∃ gu, gu = w.heap.size + 1 := ⟨_, rfl⟩
      obtain ⟨lo, hlow⟩ : ∃ lo, lo = gu := ⟨_, rfl⟩
      rw [← hgu] at hownW hgW ⊢
      have hlo : lo ≤ gu ∧ gf ≠ gu := ⟨by omega, by omega⟩
      replace hownW : Own W lo 4 (some ⟨gu, 0, none⟩) n L := by rw [hlow]; exact hownW
      have hI0 : ∀ m : Nat → Bool, (m 10 = false ∧ m 12 = false ∧ m 14 = false) → UsI gu gf lo n ia ib ic L W m 0 W.drew := fun m hm => by
        have hd := gr_drew (World.grownBy.refl W none)
        refine ⟨gr_any hd, ⟨y0.gr hd (by simp), y1.gr hd (by simp), y2.gr hd (by simp)⟩, L, hL.out, hL.out, hownW.pure hd, fun i hi => ?_⟩
        rw [hm.1, hm.2.1, hm.2.2]
        simp
      replace hI0 := hide hI0
      replace hlo := hide hlo
      replace hgu := hide hgu
      replace hlow := hide hlow
      replace hgf := hide hgf
      clear y0 y1 y2 hownW
      replace hlo := hlo.out
      refine wp_region_minvF (UsI gu gf lo n ia ib ic L W) (fun _ => Wrt (fun g => g = gu)) [VIs (.slice (some ⟨gu, 0, none⟩) n n), VIs (.pointer (some ⟨gf, 0, none⟩)), VIs (.int .i64 ia), VIs (.slice (some ⟨gu, 0, none⟩) n n), VIs (.pointer (some ⟨gf, 1, none⟩)), VIs (.int .i64 ib), VIs (.slice (some ⟨gu, 0, none⟩) n n), VIs (.pointer (some ⟨gf, 2, none⟩)), VIs (.int .i64 ic), VIs (.pointer (some ⟨gu, ia, none⟩)), (fun _ _ => True), VIs (.pointer (some ⟨gu, ib, none⟩)), (fun _ _ => True), VIs (.pointer (some ⟨gu, ic, none⟩)), (fun _ _ => True)] [0, 0, 0, 0, 0, 0, 0, 0, 0, 0, 0, 0, 0, 0, 0] (by kernel_rfl) (by kernel_rfl) (by intro vs; simp only [putAll, Act.put, List.setIfInBounds_toArray, List.set_cons_zero, List.set_cons_succ, Nat.reduceAdd]; exact rfl) ?iv0 ?iv1 rfl ?iv2 ?iv3
      case iv1 => exact Stab.ok ⟨fun m v w w' _ _ h => h, fun m v w w' _ _ h => h, fun m v w w' _ _ h => h, fun m v w w' _ _ h => h, fun m v w w' _ _ h => h, fun m v w w' _ _ h => h, fun m v w w' _ _ h => h, fun m v w w' _ _ h => h, fun m v w w' _ _ h => h, fun m v w w' _ _ h => h, fun m v w w' _ _ h => h, fun m v w w' _ _ h => h, fun m v w w' _ _ h => h, fun m v w w' _ _ h => h, fun m v w w' _ _ h => h, trivial⟩
      case iv2 =>
        refine MOpsF.op (fun vs wx m k hmj hcl hI hk hf K hK => ?_) ?_
        · clear hf hcl
          replace hK := hide hK
          replace hI := hide hI
          go_wp2_with fail
          replace hK := hK.out (.slice (some ⟨gu, 0, none⟩) n n)
          simp only [Act.put, List.setIfInBounds_toArray, List.set_cons_zero, List.set_cons_succ, Nat.add_zero] at hK
          exact hK _ ((hI.out.same (by decide) (by decide) (by decide))) (Wrt.pure (World.grownBy.refl _ _)) (rfl)
        refine MOpsF.op (fun vs wx m k hmj hcl hI hk hf K hK => ?_) ?_
        · clear hf hcl
          replace hK := hide hK
          replace hI := hide hI
          go_wp2_with fail
          replace hK := hK.out (.pointer (some ⟨gf, 0, none⟩))
          simp only [Act.put, List.setIfInBounds_toArray, List.set_cons_zero, List.set_cons_succ, Nat.add_zero] at hK
          exact hK _ ((hI.out.same (by decide) (by decide) (by decide))) (Wrt.pure (World.grownBy.refl _ _)) (rfl)
        refine MOpsF.op (fun vs wx m k hmj hcl hI hk hf K hK => ?_) ?_
        · have e1 : vs 1 = .pointer (some ⟨gf, 0, none⟩) := hf 1 (by decide) (by kernel_rfl)
          clear hf hcl
          obtain ⟨z0, z1, z2⟩ := hI.2.1
          have c := z0.1
          clear z0 z1 z2
          replace hK := hide hK
          replace hI := hide hI
          rw [e1]
          replace e1 := hide e1
          go_wp2_with fail
          replace hK := hK.out (.int .i64 ia)
          simp only [Act.put, List.setIfInBounds_toArray, List.set_cons_zero, List.set_cons_succ, e1.out, Nat.add_zero] at hK
          exact hK _ ((hI.out.same (by decide) (by decide) (by decide))) (Wrt.pure (World.grownBy.refl _ _)) (rfl)
        refine MOpsF.op (fun vs wx m k hmj hcl hI hk hf K hK => ?_) ?_
        · clear hf hcl
          replace hK := hide hK
          replace hI := hide hI
          go_wp2_with fail
          replace hK := hK.out (.slice (some ⟨gu, 0, none⟩) n n)
          simp only [Act.put, List.setIfInBounds_toArray, List.set_cons_zero, List.set_cons_succ, Nat.add_zero] at hK
          exact hK _ ((hI.out.same (by decide) (by decide) (by decide))) (Wrt.pure (World.grownBy.refl _ _)) (rfl)
        refine MOpsF.op (fun vs wx m k hmj hcl hI hk hf K hK => ?_) ?_
        · clear hf hcl
          replace hK := hide hK
          replace hI := hide hI
          go_wp2_with fail
          replace hK := hK.out (.pointer (some ⟨gf, 1, none⟩))
          simp only [Act.put, List.setIfInBounds_toArray, List.set_cons_zero, List.set_cons_succ, Nat.add_zero] at hK
          exact hK _ ((hI.out.same (by decide) (by decide) (by decide))) (Wrt.pure (World.grownBy.refl _ _)) (rfl)
        refine MOpsF.op (fun vs wx m k hmj hcl hI hk hf K hK => ?_) ?_
        · have e4 : vs 4 = .pointer (some ⟨gf, 1, none⟩) := hf 4 (by decide) (by kernel_rfl)
          clear hf hcl
          obtain ⟨z0, z1, z2⟩ := hI.2.1
          have c := z1.1
          clear z0 z1 z2
          replace hK := hide hK
          replace hI := hide hI
          rw [e4]
          replace e4 := hide e4
          go_wp2_with fail
          replace hK := hK.out (.int .i64 ib)
          simp only [Act.put, List.setIfInBounds_toArray, List.set_cons_zero, List.set_cons_succ, e4.out, Nat.add_zero] at hK
          exact hK _ ((hI.out.same (by decide) (by decide) (by decide))) (Wrt.pure (World.grownBy.refl _ _)) (rfl)
        refine MOpsF.op (fun vs wx m k hmj hcl hI hk hf K hK => ?_) ?_
        · clear hf hcl
          replace hK := hide hK
          replace hI := hide hI
          go_wp2_with fail
          replace hK := hK.out (.slice (some ⟨gu, 0, none⟩) n n)
          simp only [Act.put, List.setIfInBounds_toArray, List.set_cons_zero, List.set_cons_succ, Nat.add_zero] at hK
          exact hK _ ((hI.out.same (by decide) (by decide) (by decide))) (Wrt.pure (World.grownBy.refl _ _)) (rfl)
        refine MOpsF.op (fun vs wx m k hmj hcl hI hk hf K hK => ?_) ?_
        · clear hf hcl
          replace hK := hide hK
          replace hI := hide hI
          go_wp2_with fail
          replace hK := hK.out (.pointer (some ⟨gf, 2, none⟩))
          simp only [Act.put, List.setIfInBounds_toArray, List.set_cons_zero, List.set_cons_succ, Nat.add_zero] at hK
          exact hK _ ((hI.out.same (by decide) (by decide) (by decide))) (Wrt.pure (World.grownBy.refl _ _)) (rfl)
        refine MOpsF.op (fun vs wx m k hmj hcl hI hk hf K hK => ?_) ?_
        · have e7 : vs 7 = .pointer (some ⟨gf, 2, none⟩) := hf 7 (by decide) (by kernel_rfl)
          clear hf hcl
          obtain ⟨z0, z1, z2⟩ := hI.2.1
          have c := z2.1
          clear z0 z1 z2
          replace hK := hide hK
          replace hI := hide hI
          rw [e7]
          replace e7 := hide e7
          go_wp2_with fail
          replace hK := hK.out (.int .i64 ic)
          simp only [Act.put, List.setIfInBounds_toArray, List.set_cons_zero, List.set_cons_succ, e7.out, Nat.add_zero] at hK
          exact hK _ ((hI.out.same (by decide) (by decide) (by decide))) (Wrt.pure (World.grownBy.refl _ _)) (rfl)
        refine MOpsF.op (fun vs wx m k hmj hcl hI hk hf K hK => ?_) ?_
        · have e0 : vs 0 = .slice (some ⟨gu, 0, none⟩) n n := hf 0 (by decide) (by kernel_rfl)
          have e2 : vs 2 = .int .i64 ia := hf 2 (by decide) (by kernel_rfl)
          clear hf hcl
          replace hK := hide hK
          replace hI := hide hI
          rw [e0, e2]
          replace e0 := hide e0
          replace e2 := hide e2
          go_wp2_with fail
          replace hK := hK.out (.pointer (some ⟨gu, ia, none⟩))
          simp only [Act.put, List.setIfInBounds_toArray, List.set_cons_zero, List.set_cons_succ, e0.out, e2.out, Nat.add_zero] at hK
          exact hK _ ((hI.out.same (by decide) (by decide) (by decide))) (Wrt.pure (World.grownBy.refl _ _)) (rfl)
        refine MOpsF.op (fun vs wx m k hmj hcl hI hk hf K hK => ?_) ?_
        · have e9 : vs 9 = .pointer (some ⟨gu, ia, none⟩) := hf 9 (by decide) (by kernel_rfl)
          clear hf hcl
          obtain ⟨⟨_, c⟩, fz⟩ := hI.cell hia
          have hgs := gr_set (World.grownBy.refl wx (some gu)) (p := ⟨gu, ia, none⟩) (.inl rfl) (.bool true)
          replace hgs := hide hgs
          replace hK := hide hK
          replace hI := hide hI
          rw [e9]
          replace e9 := hide e9
          go_wp2_with fail
          replace hK := hK.out (undef)
          simp only [Act.put, List.setIfInBounds_toArray, List.set_cons_zero, List.set_cons_succ, e9.out, Nat.add_zero] at hK
          exact hK _ ((hI.out.st0 hlo hia)) (Wrt.one hgs.out rfl) (trivial)
        refine MOpsF.op (fun vs wx m k hmj hcl hI hk hf K hK => ?_) ?_
        · have e3 : vs 3 = .slice (some ⟨gu, 0, none⟩) n n := hf 3 (by decide) (by kernel_rfl)
          have e5 : vs 5 = .int .i64 ib := hf 5 (by decide) (by kernel_rfl)
          clear hf hcl
          replace hK := hide hK
          replace hI := hide hI
          rw [e3, e5]
          replace e3 := hide e3
          replace e5 := hide e5
          go_wp2_with fail
          replace hK := hK.out (.pointer (some ⟨gu, ib, none⟩))
          simp only [Act.put, List.setIfInBounds_toArray, List.set_cons_zero, List.set_cons_succ, e3.out, e5.out, Nat.add_zero] at hK
          exact hK _ ((hI.out.same (by decide) (by decide) (by decide))) (Wrt.pure (World.grownBy.refl _ _)) (rfl)
        refine MOpsF.op (fun vs wx m k hmj hcl hI hk hf K hK => ?_) ?_
        · have e11 : vs 11 = .pointer (some ⟨gu, ib, none⟩) := hf 11 (by decide) (by kernel_rfl)
          clear hf hcl
          obtain ⟨⟨_, c⟩, fz⟩ := hI.cell hib
          have hgs := gr_set (World.grownBy.refl wx (some gu)) (p := ⟨gu, ib, none⟩) (.inl rfl) (.bool true)
          replace hgs := hide hgs
          replace hK := hide hK
          replace hI := hide hI
          rw [e11]
          replace e11 := hide e11
          go_wp2_with fail
          replace hK := hK.out (undef)
          simp only [Act.put, List.setIfInBounds_toArray, List.set_cons_zero, List.set_cons_succ, e11.out, Nat.add_zero] at hK
          exact hK _ ((hI.out.st1 hlo hib)) (Wrt.one hgs.out rfl) (trivial)
        refine MOpsF.op (fun vs wx m k hmj hcl hI hk hf K hK => ?_) ?_
        · have e6 : vs 6 = .slice (some ⟨gu, 0, none⟩) n n := hf 6 (by decide) (by kernel_rfl)
          have e8 : vs 8 = .int .i64 ic := hf 8 (by decide) (by kernel_rfl)
          clear hf hcl
          replace hK := hide hK
          replace hI := hide hI
          rw [e6, e8]
          replace e6 := hide e6
          replace e8 := hide e8
          go_wp2_with fail
          replace hK := hK.out (.pointer (some ⟨gu, ic, none⟩))
          simp only [Act.put, List.setIfInBounds_toArray, List.set_cons_zero, List.set_cons_succ, e6.out, e8.out, Nat.add_zero] at hK
          exact hK _ ((hI.out.same (by decide) (by decide) (by decide))) (Wrt.pure (World.grownBy.refl _ _)) (rfl)
        refine MOpsF.op (fun vs wx m k hmj hcl hI hk hf K hK => ?_) ?_
        · have e13 : vs 13 = .pointer (some ⟨gu, ic, none⟩) := hf 13 (by decide) (by kernel_rfl)
          clear hf hcl
          obtain ⟨⟨_, c⟩, fz⟩ := hI.cell hic
          have hgs := gr_set (World.grownBy.refl wx (some gu)) (p := ⟨gu, ic, none⟩) (.inl rfl) (.bool true)
          replace hgs := hide hgs
          replace hK := hide hK
          replace hI := hide hI
          rw [e13]
          replace e13 := hide e13
          go_wp2_with fail
          replace hK := hK.out (undef)
          simp only [Act.put, List.setIfInBounds_toArray, List.set_cons_zero, List.set_cons_succ, e13.out, Nat.add_zero] at hK
          exact hK _ ((hI.out.st2 hlo hic)) (Wrt.one hgs.out rfl) (trivial)
        exact MOpsF.done
      case iv0 => exact fun m hm => hI0.out m ⟨hm 10 (by decide), hm 12 (by decide), hm 14 (by decide)⟩
      case iv3 =>
        intro vs' w9 m hm' hI hf
        have e10 := hm' 10 (by decide)
        have e12 := hm' 12 (by decide)
        have e14 := hm' 14 (by decide)
        obtain ⟨k1, -, l, hl, hL', ho, hv⟩ := hI
        rw [e10, e12, e14] at hv
        have hl2 := hst.out l hl hL.out hv
        subst hl2
        clear hf hm' hI0 hst hv hL hlo e10 e12 e14
        rw [hlow.out] at ho
        obtain rfl := hgu.out
        obtain rfl := hgf.out
        go_wp2_with fail
        (go_roundw; (case rel => exact ⟨k + 1, by omega, by go_num, ho, gr_trans hgW k1⟩); (case measure => simp [intOf]; omega))
    · have hkn : k = fs.length := by omega
      subst hkn
      rw [List.take_length] at hown
      go_wp2_with fail
      go_ret
      exact ⟨w.heap.size + 1, rfl, hown.lower (by omega), hgr⟩

end Go.Proofs.YtkcchcnljanloaaGreat

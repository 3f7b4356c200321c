/- Contracts of functions that this seat's laws reach, each: what one call returns and what it leaves in memory; no condition beyond each theorem's own hypotheses. -/
import Derived.Test.YthciblcokogkkaaGreatDoorZqFlrM
import Derived.Test.YthciblcokogkkaaGreatDoorZqFlrK
set_option linter.unusedVariables false
set_option linter.unusedSimpArgs false
namespace Go.Proofs.YthciblcokogkkaaGreatDoor
open Go Go.RowKit Go.Bl

theorem DoneS.eq {F : Flr} {s1 s2 t1 t2 : List (List UInt8)} (h : DoneS F s1 s2) (k : DoneS F t1 t2) : srtB s1 = srtB t1 ∧ srtB s2 = srtB t2 :=
  ⟨srtB_of h.1 k.1 fun s => (h.2.2.1 s).trans (k.2.2.1 s).symm, srtB_of h.2.1 k.2.1 fun s => (h.2.2.2 s).trans (k.2.2.2 s).symm⟩

theorem doS_jk {F : Flr} {e : Ev} (h : ∀ k, okK (F.s k).job) (he : EvOk e) (k : ByteArray) : okK ((doS F e).s k).job := by
  by_cases h0 : doE F e = 0
  · rw [doS_go h0, goS_s F e k he.kd]
    by_cases hk : k = e.pr
    · rw [if_pos hk]
      by_cases h1 : e.kind = 1
      · rw [if_pos h1]; exact (ev_okK he).2
      · rw [if_neg h1]
        by_cases h4 : e.kind = 4
        · rw [if_pos h4]; exact h e.pr
        · rw [if_neg h4]
          by_cases h5 : e.kind = 5
          · rw [if_pos h5]; exact okK_noB
          · rw [if_neg h5]; exact okK_noB
    · rw [if_neg hk]; exact h k
  · rw [doS_no h0]; exact h k

theorem dnL_ok : ∀ (l : List Ev) (F : Flr), (∀ k, okK (F.s k).job) → (∀ e ∈ l, EvOk e) → ∀ j ∈ dnL F l, okK j
  | [], _, _, _, j, hj => by cases hj
  | e :: l, F, h, hev, j, hj => by
    unfold dnL at hj
    rcases List.mem_append.1 hj with hj | hj
    · split at hj
      · rw [List.mem_singleton.1 hj]; exact h e.pr
      · cases hj
    · exact dnL_ok l (doS F e) (doS_jk h (hev e (List.mem_cons_self ..))) (fun x hx => hev x (List.mem_cons_of_mem _ hx)) j hj

theorem newF_dn (p : List Prn) (j : ByteArray) : (newF p).dn j = none := rfl

theorem done_len {l : List Ev} {p : List Prn} (hord : ordE 0 l) (hev : ∀ e ∈ l, EvOk e) {s1 s2 : List (List UInt8)} (h : DoneS (runS (newF p) l) s1 s2) : s1.length = (dnL (newF p) l).length := by
  obtain ⟨h1, -, h3⟩ := dn_run l (newF p) 0 (FlI.new p) hord hev
  have hok := dnL_ok l (newF p) (fun k => by rw [(newF_s p k).2.2]; exact okK_noB) hev
  have hnd : (s1.map fun s => (⟨s.toArray⟩ : ByteArray)).Nodup := by
    refine List.pairwise_map.2 (List.Pairwise.imp (fun {a b} hne e => hne ?_) h.1)
    have e2 := congrArg (fun x : ByteArray => x.data.toList) e
    simpa using e2
  have hp : (s1.map fun s => (⟨s.toArray⟩ : ByteArray)).Perm (dnL (newF p) l) := by
    rw [List.perm_ext_iff_of_nodup hnd h1]
    intro j
    rw [List.mem_map]
    have h4 := h3 j
    rw [newF_dn] at h4
    constructor
    · rintro ⟨s, hs, rfl⟩
      rcases h4.1 ((h.2.2.1 s).1 hs).2 with h5 | h5
      · cases h5
      · exact h5
    · intro hj
      refine ⟨j.data.toList, (h.2.2.1 _).2 ?_, bytes_of j⟩
      rw [bytes_of]
      exact ⟨hok j hj, h4.2 (.inr hj)⟩
  have := hp.length_eq
  rwa [List.length_map] at this

theorem badI_good (F : Flr) (l : List Ev) : badI F (goodL F l) = [] := by unfold badI; rw [good_bad]; rfl

theorem mem_badI {F : Flr} {l : List Ev} {k : Nat} (h : k < l.length) : memB (badI F l) (k : Int) = decide (doE (runS F (l.take k)) l[k] ≠ 0) := by
  unfold memB badI
  rw [decide_eq_decide, ← mem_badL (i := 0) h, Nat.zero_add, List.mem_map]
  constructor
  · rintro ⟨i, hi, e⟩
    obtain rfl : i = k := by omega
    exact hi
  · exact fun hk => ⟨k, hk, rfl⟩
/-- how many of them are done -/
def cntD (l : List Ev) : Nat := (l.filter fun e => decide (e.kind = 2)).length

theorem cntD_snoc (l : List Ev) (e : Ev) : cntD (l ++ [e]) = cntD l + if e.kind = 2 then 1 else 0 := by
  unfold cntD
  rw [List.filter_append, List.length_append]
  by_cases h : e.kind = 2 <;> simp [h]

end Go.Proofs.YthciblcokogkkaaGreatDoor

/- Contracts of functions that this seat's laws reach, each: what one call returns and what it leaves in memory; no condition beyond each theorem's own hypotheses. -/
import Derived.Test.YtbpkkgeedkegcaaGreatDoorZqGpLib
import Derived.Test.YtbpkkgeedkegcaaGreatDoorZqMeshBH
set_option linter.unusedVariables false
set_option linter.unusedSimpArgs false
namespace Go.Proofs.YtbpkkgeedkegcaaGreatDoor
open Go Go.RowKit Go.Bl

theorem allS_swp (fs : List Fc) : (allS (fs.map swp)).Perm ((allS fs).map rvS) := by
  induction fs with
  | nil => exact List.Perm.refl _
  | cons f r ih =>
    show (sdsOf (swp f) ++ allS (r.map swp)).Perm ((sdsOf f ++ allS r).map rvS)
    rw [List.map_append]
    refine List.Perm.append ?_ ih
    show [(⟨f.a, f.c⟩ : Sd), ⟨f.c, f.b⟩, ⟨f.b, f.a⟩].Perm [⟨f.b, f.a⟩, ⟨f.c, f.b⟩, ⟨f.a, f.c⟩]
    exact (List.reverse_perm [(⟨f.b, f.a⟩ : Sd), ⟨f.c, f.b⟩, ⟨f.a, f.c⟩])

theorem allS_swp_nodup {fs : List Fc} (h : (allS fs).Nodup) : (allS (fs.map swp)).Nodup := by
  rw [(allS_swp fs).nodup_iff]
  unfold List.Nodup at h ⊢
  rw [List.pairwise_map]
  exact h.imp fun hab e => hab (rvS_inj e)

theorem farZ_neg (n : Int) : farZ (-n) = farZ n := by
  unfold farZ
  rw [Bool.or_comm]
  congr 1 <;> rw [decide_eq_decide] <;> omega

end Go.Proofs.YtbpkkgeedkegcaaGreatDoor

/- Contracts of functions that this seat's laws reach, each: what one call returns and what it leaves in memory; no condition beyond each theorem's own hypotheses. -/
import Derived.Test.YtgcpegjggakemaaGreatDoorZqCelAB
import Derived.Test.YtgcpegjggakemaaGreatDoorZqFillOut
import Derived.Test.YtgcpegjggakemaaGreatDoorZqPathC
set_option linter.unusedVariables false
set_option linter.unusedSimpArgs false
namespace Go.Bl
open Go

def onS (p : Pt) (s : Sid) : Bool := onB p s.a s.b
/-- the state of the count: 1 in, -1 out -/
def sgnB (b : Bool) : Int := if b then 1 else -1

end Go.Bl
namespace Go.Proofs.YtgcpegjggakemaaGreatDoor
open Go Go.RowKit Go.Bl

/-- a captured point, beside a row of sides: all are near -/
structure SdH (w : World) (gc : Nat) (P : Pt) (l : List Sid) : Prop where
  bx : Box w gc 30 [.int .i64 P.x, .int .i64 P.y]
  bl : ∀ x ∈ l, bdP x.a ∧ bdP x.b
  pb : bdP P

theorem SdH.gr {w w' : World} {gc : Nat} {P : Pt} {l : List Sid} (h : SdH w gc P l) (hg : w.grownBy w' none) : SdH w' gc P l := ⟨h.bx.pure hg, h.bl, h.pb⟩

theorem sides_bd {rs : List (List Pt)} (hok : ROk rs) : ∀ x ∈ sidesK rs rs.length, bdP x.a ∧ bdP x.b := by
  intro x hx
  obtain ⟨i, hi, k, hk, rfl⟩ := mem_sidesK.1 hx
  have e : rs.getD i [] = rs[i] := by simp [List.getD, hi]
  rw [e]
  have h1 := hok.bd _ (List.getElem_mem hi)
  have h2 := (hok.len _ (List.getElem_mem hi)).1
  exact ⟨cor_bd h1 (by omega) k, cor_bd h1 (by omega) (k + 1)⟩
/-- what is wrong with a question -/
def insE (rs : List (List Pt)) (p : Pt) : Int := if regF rs ≠ 0 then regF rs else if farP p then 1 else 0

def insV (rs : List (List Pt)) (p : Pt) : Int := if insE rs p ≠ 0 then 0 else insF rs p

end Go.Proofs.YtgcpegjggakemaaGreatDoor

/- Contracts of functions that this seat's laws reach, each: what one call returns and what it leaves in memory; no condition beyond each theorem's own hypotheses. -/
import Derived.Test.YtejmbaiioblfeaaGreatDoorZqRegF
import Derived.Test.YtejmbaiioblfeaaGreatDoorZqFillOut
import Derived.Test.YtejmbaiioblfeaaGreatDoorZqPathA
set_option linter.unusedVariables false
set_option linter.unusedSimpArgs false
namespace Go.Bl
open Go
/-- sides of two rings that meet -/
def pairR (r q : List Pt) : Bool := (List.range r.length).any fun a => (List.range q.length).any fun b => meetR (cor r a) (cor r (a + 1)) (cor q b) (cor q (b + 1))

def pairsR (rs : List (List Pt)) : Bool := (List.range rs.length).any fun i => (List.range i).any fun k => pairR (rs.getD i []) (rs.getD k [])
/-- the reference's fault of a region -/
def regR (rs : List (List Pt)) : Int :=
  if 100 < rs.length ∨ 2000 < (flatK rs rs.length).length then 2
  else if scanN (fun k => ringR (rs.getD k [])) rs.length ≠ 0 then scanN (fun k => ringR (rs.getD k [])) rs.length
  else if pairsR rs then 13 else 0

end Go.Bl

namespace Go.Bl
open Go
/-- cross and dot product -/
def crV (u v : Pt) : Int := u.x * v.y - u.y * v.x

def doV (u v : Pt) : Int := u.x * v.x + u.y * v.y

def subP (b a : Pt) : Pt := ⟨b.x - a.x, b.y - a.y⟩
/-- in the same direction -/
def parV (u v : Pt) : Prop := crV u v = 0 ∧ 0 < doV u v

theorem sq_pos {x : Int} (h : x ≠ 0) : 0 < x * x := by
  rcases Int.lt_or_gt_of_ne h with h | h
  · exact Int.mul_pos_of_neg_of_neg h h
  · exact Int.mul_pos h h

theorem sq_nn (x : Int) : 0 ≤ x * x := by
  by_cases h : x = 0
  · rw [h]; decide
  · have := sq_pos h; omega

theorem doV_self {u : Pt} (h : u.x ≠ 0 ∨ u.y ≠ 0) : 0 < doV u u := by
  unfold doV
  have h1 := sq_nn u.x
  have h2 := sq_nn u.y
  rcases h with h | h
  · have := sq_pos h; omega
  · have := sq_pos h; omega

theorem doV_ne {u v : Pt} (h : doV u v ≠ 0) : u.x ≠ 0 ∨ u.y ≠ 0 := by
  by_cases h1 : u.x = 0
  · by_cases h2 : u.y = 0
    · exfalso; apply h; unfold doV; rw [h1, h2, Int.zero_mul, Int.zero_mul]; rfl
    · exact .inr h2
  · exact .inl h1

theorem parV_ne {u v : Pt} (h : parV u v) : u.x ≠ 0 ∨ u.y ≠ 0 := doV_ne (v := v) (by have := h.2; omega)

theorem pos_of_mul {a b : Int} (hb : 0 < b) (h : 0 < a * b) : 0 < a := by
  rcases Int.lt_trichotomy a 0 with k | k | k
  · have := Int.mul_neg_of_neg_of_pos k hb; omega
  · rw [k, Int.zero_mul] at h; omega
  · exact k

def addP (a b : Pt) : Pt := ⟨a.x + b.x, a.y + b.y⟩

/-- of one sign -/
def ssg (a b : Int) : Prop := (0 < a ↔ 0 < b) ∧ (a < 0 ↔ b < 0)

theorem ssg_of {a b d e : Int} (hd : 0 < d) (he : 0 < e) (h : b * d = e * a) : ssg a b := by
  have p1 : 0 < a → 0 < e * a := fun k => Int.mul_pos he k
  have p2 : a < 0 → e * a < 0 := fun k => Int.mul_neg_of_pos_of_neg he k
  have p0 : a = 0 → e * a = 0 := fun k => by rw [k, Int.mul_zero]
  have q1 : 0 < b → 0 < b * d := fun k => Int.mul_pos k hd
  have q2 : b < 0 → b * d < 0 := fun k => Int.mul_neg_of_neg_of_pos k hd
  have q0 : b = 0 → b * d = 0 := fun k => by rw [k, Int.zero_mul]
  unfold ssg
  generalize b * d = s at *
  generalize e * a = t at *
  omega

theorem cr_id (u v x : Pt) : crV v x * doV u u = doV u v * crV u x - crV u v * doV u x := by unfold crV doV; grind

theorem par_cr {u v : Pt} (h : parV u v) (x : Pt) : ssg (crV u x) (crV v x) := by
  have e := cr_id u v x
  rw [h.1, Int.zero_mul, Int.sub_zero] at e
  exact ssg_of (doV_self (parV_ne h)) h.2 e

theorem turn_cr (a b c : Pt) : turnP a b c = crV (subP b a) (subP c a) := rfl

theorem turn_cr2 (a b c : Pt) : turnP a b c = crV (subP b a) (subP c b) := by unfold turnP crV subP; grind
/-- a corner that is straight, and does not fold back, goes on -/
theorem par_of {a b c : Pt} (hz : turnP a b c = 0) (hf : foldB b a c = false) (h1 : a ≠ b) (h2 : b ≠ c) : parV (subP b a) (subP c b) := by
  have hcr : crV (subP b a) (subP c b) = 0 := by rw [← turn_cr2]; exact hz
  have hz' : turnP b a c = 0 := by rw [turn_flip a b c]; omega
  unfold foldB at hf
  rw [decide_eq_true hz', Bool.true_and, decide_eq_false_iff_not] at hf
  have e : doV (subP b a) (subP c b) = -((a.x - b.x) * (c.x - b.x) + (a.y - b.y) * (c.y - b.y)) := by unfold doV subP; grind
  have hu : (subP b a).x ≠ 0 ∨ (subP b a).y ≠ 0 := by
    unfold subP; simp only
    rcases Classical.em (b.x - a.x = 0) with k | k
    · refine .inr fun k2 => h1 ?_
      cases a; cases b; simp only [Pt.mk.injEq] at *; omega
    · exact .inl k
  have hw : (subP c b).x ≠ 0 ∨ (subP c b).y ≠ 0 := by
    unfold subP; simp only
    rcases Classical.em (c.x - b.x = 0) with k | k
    · refine .inr fun k2 => h2 ?_
      cases c; cases b; simp only [Pt.mk.injEq] at *; omega
    · exact .inl k
  generalize subP b a = u at *
  generalize subP c b = v at *
  have hd : doV u v ≠ 0 := by
    intro h0
    have e2 : doV u v * doV u v + crV u v * crV u v = doV u u * doV v v := by unfold doV crV; grind
    rw [h0, hcr] at e2
    have := Int.mul_pos (doV_self hu) (doV_self hw)
    omega
  exact ⟨hcr, by omega⟩

end Go.Bl

namespace Go.Bl
open Go
/-- a side of a ring, as the reference has it -/
structure Sg where
  a : Pt
  b : Pt
deriving DecidableEq

instance : Inhabited Sg := ⟨⟨default, default⟩⟩

instance : Enc Sg where
  sz := 4
  rep := fun _ _ p cs => cs = [.int .i64 p.a.x, .int .i64 p.a.y, .int .i64 p.b.x, .int .i64 p.b.y]
  len := by rintro w lo x cs rfl; rfl
  one := by rintro w lo x cs rfl u hu; simp at hu; rcases hu with rfl | rfl | rfl | rfl <;> rfl
  keep := fun h _ => h
  mono := fun h _ => h

instance : Flat Sg := ⟨fun h => h, by decide⟩

def segK (r : List Pt) (k : Nat) : List Sg := (List.range k).map fun k => ⟨cor r k, cor r (k + 1)⟩

end Go.Bl
namespace Go.Proofs.YtejmbaiioblfeaaGreatDoor
open Go Go.RowKit Go.Bl

set_option maxHeartbeats 800000 in
theorem turnRef_any (a b c : Pt) (w : World) (ha : bdP a) (hb : bdP b) (hc : bdP c) :
    Calls Tryz.prog 52 #[(.agg #[.int .i64 (a).x, .int .i64 (a).y]), (.agg #[.int .i64 (b).x, .int .i64 (b).y]), (.agg #[.int .i64 (c).x, .int .i64 (c).y])] w fun e w' => e = .returned (.int .i64 (turnP a b c)) ∧ w.grownBy w' none := by
  unfold bdP at ha hb hc
  have h1 := mul_pt (a := b.x - a.x) (b := c.y - a.y) (by omega) (by omega)
  have h2 := mul_pt (a := b.y - a.y) (b := c.x - a.x) (by omega) (by omega)
  have hV : Hid (turnP a b c = (b.x - a.x) * (c.y - a.y) - (b.y - a.y) * (c.x - a.x)) := rfl
  go_enter Tryz.func52, Tryz.ntmps52
  go_wp2_with fail
  go_ret
  exact ⟨ret_int hV.out.symm, (by repeat (first | exact World.grownBy.refl _ _ | assumption | refine gr_alloc ?_ _ | (apply gr_tail; assumption) | refine gr_drewN ?_ _ | refine gr_drew ?_))⟩

def sgnI (n : Int) : Int := Lib.compareInt n 0

end Go.Proofs.YtejmbaiioblfeaaGreatDoor

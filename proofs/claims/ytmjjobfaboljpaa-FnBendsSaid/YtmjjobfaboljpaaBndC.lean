/- The walks of the wear of the rails of a bend, program and reference. -/
import Derived.Test.YtmjjobfaboljpaaBndA
namespace Go.Proofs.Ytmjjobfaboljpaa.BndC
open Go.RowKit Go.Proofs.Ytmjjobfaboljpaa.Plain Go.Proofs.Ytmjjobfaboljpaa.WalkA Go.Proofs.Ytmjjobfaboljpaa.WalkB Go.Proofs.Ytmjjobfaboljpaa.WalkC Go.Proofs.Ytmjjobfaboljpaa.WalkF Go.Proofs.Ytmjjobfaboljpaa.WalkH Go.Proofs.Ytmjjobfaboljpaa.BndA

def wearI (r a m : Int) : Int := divR (a * m * 10) r
theorem wear_bd {a m : Int} (ha : 0 ≤ a ∧ a ≤ 1000000) (hm : 0 ≤ m ∧ m ≤ 100000) : 0 ≤ a * m ∧ a * m ≤ 100000000000 := by
  refine ⟨Int.mul_nonneg ha.1 hm.1, ?_⟩
  have h1 := Int.mul_le_mul_of_nonneg_right ha.2 hm.1
  omega
def codC (b1 b2 : Bool) : Int := if b1 = true then (if b2 = true then 0 else 2) else 1
theorem cod_bad {b1 b2 : Bool} (h : b1 = false) : codC b1 b2 = 1 ∧ (b1 && b2) = false := by subst h; exact ⟨rfl, rfl⟩
theorem cod_out {b1 b2 : Bool} (h : b1 = true) (k : b2 = false) : codC b1 b2 = 2 ∧ (b1 && b2) = false := by subst h; subst k; exact ⟨rfl, rfl⟩
theorem cod_ok {b1 b2 : Bool} (h : b1 = true) (k : b2 = true) : codC b1 b2 = 0 ∧ (b1 && b2) = true := by subst h; subst k; exact ⟨rfl, rfl⟩
end Go.Proofs.Ytmjjobfaboljpaa.BndC

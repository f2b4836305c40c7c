/- The walks of lengths, codes of places and the places of the other car, program and reference. -/
import Derived.Test.YtomkldkmaabbnaaDoorTrkD
namespace Go.Proofs.YtomkldkmaabbnaaDoor.TrkE
open Go.RowKit Go.Proofs.YtomkldkmaabbnaaDoor.Plain Go.Proofs.YtomkldkmaabbnaaDoor.TrkP Go.Proofs.YtomkldkmaabbnaaDoor.WalkA Go.Proofs.YtomkldkmaabbnaaDoor.TrkA Go.Proofs.YtomkldkmaabbnaaDoor.TrkB Go.Proofs.YtomkldkmaabbnaaDoor.TrkC Go.Proofs.YtomkldkmaabbnaaDoor.TrkD

def vI (c : Bool) (v : Int) : Int := if c = true then v else 0
def cI (c : Bool) : Int := if c = true then 0 else 1
/-- The first error of a track and a place. -/
def onI (l : List (Int × Int)) (lf lu x : Int) : Int := if trackB l lf lu = true then (if inB x 0 (lenAll l) = true then 0 else 2) else 1
def onB (l : List (Int × Int)) (lf lu x : Int) : Bool := trackB l lf lu && inB x 0 (lenAll l)
theorem onI_bad {l : List (Int × Int)} {lf lu x : Int} (h : trackB l lf lu = false) : onI l lf lu x = 1 := by simp [onI, h]
theorem onI_out {l : List (Int × Int)} {lf lu x : Int} (h : trackB l lf lu = true) (k : inB x 0 (lenAll l) = false) : onI l lf lu x = 2 := by simp [onI, h, k]
theorem onI_in {l : List (Int × Int)} {lf lu x : Int} (h : trackB l lf lu = true) (k : inB x 0 (lenAll l) = true) : onI l lf lu x = 0 := by simp [onI, h, k]
theorem drew_below {w w' : World} {m : Nat} (h : w' = w.drewN m) (B : Nat) : Below B w w' := by subst h; exact ⟨rfl, rfl, rfl, Nat.le_refl _, fun _ _ => rfl⟩

end Go.Proofs.YtomkldkmaabbnaaDoor.TrkE

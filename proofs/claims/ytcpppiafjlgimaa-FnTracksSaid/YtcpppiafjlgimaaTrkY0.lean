/- A track from the top: what it is. -/
import Derived.Test.YtcpppiafjlgimaaTrkX
import Derived.Deep.RegionHeld3
import Derived.Deep.RegionLaw
import Derived.Deep.DrawnRows
namespace Go.Proofs.Ytcpppiafjlgimaa.TrkY0
open Go.RowKit Go.Proofs.Ytcpppiafjlgimaa.Plain Go.Proofs.Ytcpppiafjlgimaa.TrkP Go.Proofs.Ytcpppiafjlgimaa.WalkA Go.Proofs.Ytcpppiafjlgimaa.TrkA Go.Proofs.Ytcpppiafjlgimaa.TrkB Go.Proofs.Ytcpppiafjlgimaa.TrkC Go.Proofs.Ytcpppiafjlgimaa.TrkD Go.Proofs.Ytcpppiafjlgimaa.TrkE Go.Proofs.Ytcpppiafjlgimaa.TrkR Go.Proofs.Ytcpppiafjlgimaa.TrkS Go.Proofs.Ytcpppiafjlgimaa.TrkT Go.Proofs.Ytcpppiafjlgimaa.TrkX

def turnL (l : List (Int × Int)) (lf lu : Int) : List (Int × Int) := if trackB l lf lu = true then l.reverse else []
def turnF (l : List (Int × Int)) (lf lu : Int) : Int := if trackB l lf lu = true then lenAll l - lu else 0
def turnU (l : List (Int × Int)) (lf lu : Int) : Int := if trackB l lf lu = true then lenAll l - lf else 0
theorem turn_bad {l : List (Int × Int)} {lf lu : Int} (h : trackB l lf lu = false) : turnL l lf lu = [] ∧ turnF l lf lu = 0 ∧ turnU l lf lu = 0 ∧ cI (trackB l lf lu) = 1 := by simp [turnL, turnF, turnU, cI, h]
theorem turn_ok {l : List (Int × Int)} {lf lu : Int} (h : trackB l lf lu = true) : turnL l lf lu = l.reverse ∧ turnF l lf lu = lenAll l - lu ∧ turnU l lf lu = lenAll l - lf ∧ cI (trackB l lf lu) = 0 := by simp [turnL, turnF, turnU, cI, h]
theorem NewTrk.as {w : World} {l l' : List (Int × Int)} {a a' b b' c c' : Int} {e : Ending} {w' : World} (h : NewTrk w l' a' b' c' e w') (h1 : l = l' ∧ a = a' ∧ b = b' ∧ c = c') : NewTrk w l a b c e w' := by
  obtain ⟨rfl, rfl, rfl, rfl⟩ := h1
  exact h
end Go.Proofs.Ytcpppiafjlgimaa.TrkY0

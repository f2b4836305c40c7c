/- The walks of quotients, lines and units. -/
import Derived.Test.YtomkldkmaabbnaaDoorWalkA
namespace Go.Proofs.YtomkldkmaabbnaaDoor.WalkB
open Go.RowKit Go.Proofs.YtomkldkmaabbnaaDoor.Plain Go.Proofs.YtomkldkmaabbnaaDoor.WalkA

/-- Nothing but draws of the tape lies between two worlds. -/
def Drew (w w' : World) : Prop := ∃ n, w' = w.drewN n
theorem Drew.refl (w : World) : Drew w w := ⟨0, rfl⟩
theorem Drew.below {w w' : World} (h : Drew w w') (B : Nat) : Below B w w' := by
  obtain ⟨n, rfl⟩ := h
  exact ⟨rfl, rfl, rfl, Nat.le_refl _, fun _ _ => rfl⟩

end Go.Proofs.YtomkldkmaabbnaaDoor.WalkB

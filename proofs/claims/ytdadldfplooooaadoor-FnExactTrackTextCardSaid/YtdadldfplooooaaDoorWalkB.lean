/- The walks of quotients, lines and units. -/
import Derived.Test.YtdadldfplooooaaDoorWalkA
namespace Go.Proofs.YtdadldfplooooaaDoor.WalkB
open Go.RowKit Go.Proofs.YtdadldfplooooaaDoor.Plain Go.Proofs.YtdadldfplooooaaDoor.WalkA

/-- Nothing but draws of the tape lies between two worlds. -/
def Drew (w w' : World) : Prop := ∃ n, w' = w.drewN n
theorem Drew.refl (w : World) : Drew w w := ⟨0, rfl⟩
theorem Drew.below {w w' : World} (h : Drew w w') (B : Nat) : Below B w w' := by
  obtain ⟨n, rfl⟩ := h
  exact ⟨rfl, rfl, rfl, Nat.le_refl _, fun _ _ => rfl⟩

end Go.Proofs.YtdadldfplooooaaDoor.WalkB

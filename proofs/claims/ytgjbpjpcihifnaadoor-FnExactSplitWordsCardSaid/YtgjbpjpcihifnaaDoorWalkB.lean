/- The walks of quotients, lines and units. -/
import Derived.Test.YtgjbpjpcihifnaaDoorWalkA
namespace Go.Proofs.YtgjbpjpcihifnaaDoor.WalkB
open Go.RowKit Go.Proofs.YtgjbpjpcihifnaaDoor.Plain Go.Proofs.YtgjbpjpcihifnaaDoor.WalkA

/-- Nothing but draws of the tape lies between two worlds. -/
def Drew (w w' : World) : Prop := ∃ n, w' = w.drewN n
theorem Drew.refl (w : World) : Drew w w := ⟨0, rfl⟩
theorem Drew.below {w w' : World} (h : Drew w w') (B : Nat) : Below B w w' := by
  obtain ⟨n, rfl⟩ := h
  exact ⟨rfl, rfl, rfl, Nat.le_refl _, fun _ _ => rfl⟩

theorem abs_same (n : Int) (hn : -4611686018427387904 ≤ n ∧ n ≤ 4611686018427387904) (w : World) : Calls Tryd.prog 53 #[.int .i64 n] w fun e w' => e = .returned (.int .i64 (absI n)) ∧ w' = w :=
  (abs_any n hn w).mono fun _ _ h => ⟨h.1, h.2.symm⟩

end Go.Proofs.YtgjbpjpcihifnaaDoor.WalkB

/- The walks of validity and length of tracks as the laws call them. -/
import Derived.Test.YtomkldkmaabbnaaDoorTrkB
import Derived.Test.YtomkldkmaabbnaaDoorTrkC
namespace Go.Proofs.YtomkldkmaabbnaaDoor.TrkD
open Go.RowKit Go.Proofs.YtomkldkmaabbnaaDoor.Plain Go.Proofs.YtomkldkmaabbnaaDoor.TrkP Go.Proofs.YtomkldkmaabbnaaDoor.WalkA Go.Proofs.YtomkldkmaabbnaaDoor.TrkA Go.Proofs.YtomkldkmaabbnaaDoor.TrkB Go.Proofs.YtomkldkmaabbnaaDoor.TrkC

/-- A track laid in a box of its own, as a call lays it. -/
theorem boxed (w : World) (t : TypeId) (a b c : Value) :
    (w.alloc (.cells #[a, b, c] t)).cell? ⟨w.heap.size, 0, none⟩ = some a ∧ (w.alloc (.cells #[a, b, c] t)).cell? ⟨w.heap.size, 1, none⟩ = some b ∧ (w.alloc (.cells #[a, b, c] t)).cell? ⟨w.heap.size, 2, none⟩ = some c ∧
    Below w.heap.size w (w.alloc (.cells #[a, b, c] t)) ∧ (w.alloc (.cells #[a, b, c] t)).heap.size = w.heap.size + 1 := by
  obtain ⟨h0, h1, h2, _, _, _⟩ := (RowAt.new w t #[a, b, c]).three
  exact ⟨h0, h1, h2, (Below.refl _ _).alloc (Nat.le_refl _) _, by simp⟩

theorem implValidTrack_any (A : Option Addr) (n c : Nat) (lf lu : Int) (l : List (Int × Int)) (w : World) (hs : Secs w w.heap.size A n l) (hn : n ≤ 1048576) :
    Calls Tryd.prog 15 #[.agg #[.slice A n c, .int .i64 lf, .int .i64 lu]] w fun e w' => e = .returned (.bool (trackB l lf lu)) ∧ Below w.heap.size w w' :=
  implValid_any A n c lf lu l w hs (by omega)
end Go.Proofs.YtomkldkmaabbnaaDoor.TrkD

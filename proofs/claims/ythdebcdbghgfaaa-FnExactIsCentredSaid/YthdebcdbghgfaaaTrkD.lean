/- The walks of validity and length of tracks as the laws call them. -/
import Derived.Test.YthdebcdbghgfaaaTrkB
import Derived.Test.YthdebcdbghgfaaaTrkC
namespace Go.Proofs.Ythdebcdbghgfaaa.TrkD
open Go.RowKit Go.Proofs.Ythdebcdbghgfaaa.Plain Go.Proofs.Ythdebcdbghgfaaa.TrkP Go.Proofs.Ythdebcdbghgfaaa.WalkA Go.Proofs.Ythdebcdbghgfaaa.TrkA Go.Proofs.Ythdebcdbghgfaaa.TrkB Go.Proofs.Ythdebcdbghgfaaa.TrkC

/-- A track laid in a box of its own, as a call lays it. -/
theorem boxed (w : World) (t : TypeId) (a b c : Value) :
    (w.alloc (.cells #[a, b, c] t)).cell? ⟨w.heap.size, 0, none⟩ = some a ∧ (w.alloc (.cells #[a, b, c] t)).cell? ⟨w.heap.size, 1, none⟩ = some b ∧ (w.alloc (.cells #[a, b, c] t)).cell? ⟨w.heap.size, 2, none⟩ = some c ∧
    Below w.heap.size w (w.alloc (.cells #[a, b, c] t)) ∧ (w.alloc (.cells #[a, b, c] t)).heap.size = w.heap.size + 1 := by
  obtain ⟨h0, h1, h2, _, _, _⟩ := (RowAt.new w t #[a, b, c]).three
  exact ⟨h0, h1, h2, (Below.refl _ _).alloc (Nat.le_refl _) _, by simp⟩

theorem specValidTrack_any (A : Option Addr) (n c : Nat) (lf lu : Int) (l : List (Int × Int)) (w : World) (hs : Secs w w.heap.size A n l) (hn : n ≤ 1048576) :
    Calls Try.prog 14 #[.agg #[.slice A n c, .int .i64 lf, .int .i64 lu]] w fun e w' => e = .returned (.bool (trackB l lf lu)) ∧ Below w.heap.size w w' := by
  obtain ⟨q0, q1, q2, q3, q4⟩ := boxed w 29 (.slice A n c) (.int .i64 lf) (.int .i64 lu)
  have HO := Lib.hid (specOk_any w.heap.size A n c lf lu l _ _ q0 q1 q2 (hs.below q3 (Nat.le_refl _)) (by omega))
  have HB := Lib.hid q3
  clear q0 q1 q2 q3 q4 hs
  go_enter Try.func14, Try.ntmps14
  go_wp2_with (go_at_call 37; refine HO.out.mono ?_; rintro e w1 ⟨rfl, m, rfl⟩)
  go_ret
  exact ⟨rfl, HB.out.trans ⟨rfl, rfl, rfl, Nat.le_refl _, fun _ _ => rfl⟩⟩
theorem implValidTrack_any (A : Option Addr) (n c : Nat) (lf lu : Int) (l : List (Int × Int)) (w : World) (hs : Secs w w.heap.size A n l) (hn : n ≤ 1048576) :
    Calls Try.prog 16 #[.agg #[.slice A n c, .int .i64 lf, .int .i64 lu]] w fun e w' => e = .returned (.bool (trackB l lf lu)) ∧ Below w.heap.size w w' :=
  implValid_any A n c lf lu l w hs (by omega)
end Go.Proofs.Ythdebcdbghgfaaa.TrkD

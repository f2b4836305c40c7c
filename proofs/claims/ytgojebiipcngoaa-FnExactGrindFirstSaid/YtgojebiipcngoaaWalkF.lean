/- The walks of searches by halving, sides of bends and the least radius, and of lines. -/
import Derived.Test.YtgojebiipcngoaaWalkC
import Derived.Shelf.Abstract
namespace Go.Proofs.Ytgojebiipcngoaa.WalkF
open Go.RowKit Go.Proofs.Ytgojebiipcngoaa.Plain Go.Proofs.Ytgojebiipcngoaa.WalkA Go.Proofs.Ytgojebiipcngoaa.WalkB Go.Proofs.Ytgojebiipcngoaa.WalkC

theorem isCant_any (n : Int) (w : World) : Calls Try.prog 41 #[.int .i64 n] w fun e w' => e = .returned (.bool (inB n 0 200)) ∧ w = w' := by
  go_enter Try.func41, Try.ntmps41
  go_wp2_with (go_at_call 34; refine (within_any _ _ _ _).mono ?_; rintro e w' ⟨rfl, rfl⟩)
  go_ret
  exact ⟨rfl, rfl⟩
theorem cant_any (n : Int) (w : World) : Calls Try.prog 39 #[.int .i64 n] w fun e w' => e = .returned (.bool (inB n 0 200)) ∧ w = w' := by
  go_enter Try.func39, Try.ntmps39
  go_wp2_with (go_at_call 31; refine (in_any _ _ _ _).mono ?_; rintro e w' ⟨rfl, rfl⟩)
  go_ret
  exact ⟨rfl, rfl⟩
theorem absI_of {x B : Int} (h1 : 0 ≤ x) (h2 : x ≤ B) : absI x ≤ B := by unfold absI; split <;> omega
theorem side_bounds {v c r : Int} (hv : 0 ≤ v ∧ v ≤ 20000) (hc : 0 ≤ c ∧ c ≤ 200) (hr : 0 < r) :
    0 ≤ v * v ∧ v * v ≤ 400000000 ∧ 0 ≤ divR (v * v) r ∧ divR (v * v) r ≤ 400000000 ∧ 0 ≤ divR (981 * c) 100 ∧ divR (981 * c) 100 ≤ 196200 := by
  obtain ⟨h1, h2⟩ := sq_le hv.1 hv.2
  have h3 := divR_bound (a := v * v) (b := r) (by omega)
  have h4 := divR_bound (a := 981 * c) (b := 100) (by omega)
  have h5 := absI_of h1 h2
  have h6 := absI_of (x := 981 * c) (B := 196200) (by omega) (by omega)
  have h7 := divR_ge h1 hr
  have h8 := divR_ge (a := 981 * c) (b := 100) (by omega) (by omega)
  omega
def radB (v c m : Int) : Bool := inB v 0 20000 && (inB c 0 200 && inB m 0 5000)
def radP (v c m : Int) (r : Int) : Bool := decide (sideI r c v ≤ m)
theorem radP_rises {v c m : Int} : Rises (radP v c m) 10000 10000000 := by
  intro i j h1 h2 h3 h
  unfold radP at *
  have h4 := of_decide_eq_true h
  have := sideI_radius (r := i) (r' := j) (c := c) (v := v) (by omega) h2
  exact decide_eq_true (by omega)
/-- Is the value found one of those that were searched? -/
def radV (f : Bool) (r : Int) : Value := if f = true then (if 10000000 < r then .tuple #[.int .i64 0, .int .i64 3] else .tuple #[.int .i64 r, .int .i64 0]) else .tuple #[.int .i64 0, .int .i64 2]
theorem turn_exists (p : Int → Bool) (lo : Int) (k : Nat) : ∃ r, Turn p lo (lo + k - 1) r := by
  induction k with
  | zero => exact ⟨lo, by omega, by omega, fun h => by omega, fun h => by omega⟩
  | succ k ih =>
    obtain ⟨r, h1, h2, h3, h4⟩ := ih
    by_cases h : r ≤ lo + k - 1
    · exact ⟨r, h1, by omega, h3, fun _ => h4 h⟩
    · cases hp : p (lo + k)
      · exact ⟨lo + k + 1, by omega, by omega, fun _ => by rw [Int.add_sub_cancel]; exact hp, fun h => by omega⟩
      · have : r = lo + k := by omega
        subst this
        exact ⟨lo + k, h1, by omega, h3, fun _ => hp⟩

end Go.Proofs.Ytgojebiipcngoaa.WalkF

/- The walks of the calendar: lengths of months, days of dates, dates of days. -/
import Derived.Test.YtomkldkmaabbnaaDoorWalkC
namespace Go.Proofs.YtomkldkmaabbnaaDoor.WalkD
open Go.RowKit Go.Proofs.YtomkldkmaabbnaaDoor.Plain Go.Proofs.YtomkldkmaabbnaaDoor.WalkA Go.Proofs.YtomkldkmaabbnaaDoor.WalkB Go.Proofs.YtomkldkmaabbnaaDoor.WalkC

theorem monL_2_29 {y : Int} (h : y % 4 = 0) : monL y 2 = 29 := by simp [monL, h]
theorem monL_2_28 {y : Int} (h : y % 4 ≠ 0) : monL y 2 = 28 := by simp [monL, h]
theorem twelve {m : Int} (h1 : 1 ≤ m) (h2 : m ≤ 12) : m = 1 ∨ m = 2 ∨ m = 3 ∨ m = 4 ∨ m = 5 ∨ m = 6 ∨ m = 7 ∨ m = 8 ∨ m = 9 ∨ m = 10 ∨ m = 11 ∨ m = 12 := by omega

theorem dayN_start (y : Int) : dayN y 1 1 = dby y := by unfold dayN; rw [cum_one]; omega
theorem cum_last (y m : Int) (h1 : 1 ≤ m) (h2 : m < 13) : cum y m ≤ cum y 13 - 28 := by
  have := cum_succ y m h1 (by omega)
  have := cum_mono y (m + 1) 13 (by omega) (by omega) (by omega)
  have := monL_bd y m
  omega
theorem ret_three {day y m d y' m' d' : Int} (h : IsDate day y' m' d') (k : IsDate day y m d) :
    Ending.returned (.tuple #[.int .i64 y', .int .i64 m', .int .i64 d']) = .returned (.tuple #[.int .i64 y, .int .i64 m, .int .i64 d]) := by
  obtain ⟨rfl, rfl, rfl⟩ := h.same k
  rfl
end Go.Proofs.YtomkldkmaabbnaaDoor.WalkD

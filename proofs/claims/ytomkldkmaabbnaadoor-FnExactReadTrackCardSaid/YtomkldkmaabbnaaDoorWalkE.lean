/- The walks of the reference's calendar, and of both functions on dates. -/
import Derived.Test.YtomkldkmaabbnaaDoorWalkD
namespace Go.Proofs.YtomkldkmaabbnaaDoor.WalkE
open Go.RowKit Go.Proofs.YtomkldkmaabbnaaDoor.Plain Go.Proofs.YtomkldkmaabbnaaDoor.WalkA Go.Proofs.YtomkldkmaabbnaaDoor.WalkB Go.Proofs.YtomkldkmaabbnaaDoor.WalkC Go.Proofs.YtomkldkmaabbnaaDoor.WalkD

def dateB (y m d : Int) : Bool := inB y 2000 2099 && (inB m 1 12 && inB d 1 (monL y m))
theorem dateB_y {y m d : Int} (h : inB y 2000 2099 = false) : dateB y m d = false := by simp [dateB, h]
theorem dateB_m {y m d : Int} (h : inB m 1 12 = false) : dateB y m d = false := by simp [dateB, h]
theorem dateB_d {y m d : Int} (h : inB d 1 (monL y m) = false) : dateB y m d = false := by simp [dateB, h]
theorem dateB_ok {y m d : Int} (h : inB y 2000 2099 = true) (k : inB m 1 12 = true) (l : inB d 1 (monL y m) = true) : dateB y m d = true := by simp [dateB, h, k, l]
theorem ret_num {a b : Int} (h : a = b) : Ending.returned (.tuple #[.int .i64 a, .bool true]) = .returned (.tuple #[.int .i64 b, .bool true]) := by rw [h]
theorem dby_leap {j : Int} (h : j % 4 = 0) : dby (j + 1) = dby j + 365 + 1 := by rw [dby_succ]; simp [lp, h]
theorem dby_flat {j : Int} (h : j % 4 ≠ 0) : dby (j + 1) = dby j + 365 := by rw [dby_succ]; simp [lp, h]
theorem date_exists (k : Nat) : (k : Int) ≤ 36524 → ∃ y m d, IsDate k y m d := by
  induction k with
  | zero => intro _; exact ⟨2000, 1, 1, by omega, by omega, by omega, by omega, by omega, by decide, by decide⟩
  | succ k ih =>
    intro hk
    obtain ⟨y, m, d, h1, h2, h3, h4, h5, h6, h7⟩ := ih (by omega)
    unfold dayN at h7
    by_cases c1 : d < monL y m
    · exact ⟨y, m, d + 1, h1, h2, h3, h4, by omega, by omega, by unfold dayN; omega⟩
    by_cases c2 : m < 12
    · have := cum_succ y m h3 h4
      have := monL_bd y (m + 1)
      exact ⟨y, m + 1, 1, h1, h2, by omega, by omega, by omega, by omega, by unfold dayN; omega⟩
    · have hm : m = 12 := by omega
      subst hm
      have e1 := cum_succ y 12 (by omega) (by omega)
      have e2 := cum_13 y
      have e3 := dby_succ y
      have e4 : cum y (12 + 1) = cum y 13 := rfl
      have hy : y < 2099 := by
        apply Int.not_le.1
        intro h
        have : y = 2099 := by omega
        subst this
        have e5 : dby (2099 + 1) = 36525 := dby_2100
        omega
      have e6 := monL_bd (y + 1) 1
      exact ⟨y + 1, 1, 1, by omega, by omega, by omega, by omega, by omega, by omega, by unfold dayN; rw [cum_one]; omega⟩

theorem dayN_step {y m d : Int} (h1 : 1 ≤ m) (h2 : m < 12) : dayN y (m + 1) d = dayN y m d + monL y m := by
  have := cum_succ y m h1 (by omega); unfold dayN; omega
theorem dayN_year {y d : Int} : dayN (y + 1) 1 d = dayN y 12 d + monL y 12 := by
  have e1 := cum_succ y 12 (by omega) (by omega)
  have e2 := cum_13 y
  have e3 := dby_succ y
  have e4 : cum y (12 + 1) = cum y 13 := rfl
  unfold dayN; rw [cum_one]; omega
theorem dayN_late {y m d : Int} (hy : 2100 ≤ y) (hd : 1 ≤ d) : 36525 ≤ dayN y m d := by
  have h1 := dby_mono 2100 y hy
  have h2 := cum_bd y m
  have h3 := dby_2100
  unfold dayN; omega
def dateV (c : Bool) (y m d : Int) : Value := .tuple #[.int .i64 (valI c y), .int .i64 (valI c m), .int .i64 (valI c d), .int .i64 (codeI c)]
theorem results_tmp4 {fn : Func} {t u v x : Tmp} (h : fn.results = #[.tmp t, .tmp u, .tmp v, .tmp x]) (tmps : Array Value) (P : Program) (w : World) :
    (results fn tmps).run P w = .ok (.tuple #[tmps.getD t undef, tmps.getD u undef, tmps.getD v undef, tmps.getD x undef]) w := by simp [results, h]
end Go.Proofs.YtomkldkmaabbnaaDoor.WalkE

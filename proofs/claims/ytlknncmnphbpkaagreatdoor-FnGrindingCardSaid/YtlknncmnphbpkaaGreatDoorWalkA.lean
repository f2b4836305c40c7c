/- The walks of the small functions of the first chapter: ranges, quotients, square roots. Each contract says what the function returns; bounds are stated at each. -/
import Derived.Test.YtlknncmnphbpkaaGreatDoorRows
import Derived.Test.YtlknncmnphbpkaaGreatDoorPlain
import Derived.WalkKit
import Derived.WalkSpells
import Derived.WalkLawsBesides
import Derived.BigQuiet
import Derived.Lib.Hide
import Derived.Deep.QuietTactic
namespace Go.Proofs.YtlknncmnphbpkaaGreatDoor.WalkA
open Go.RowKit Go.Proofs.YtlknncmnphbpkaaGreatDoor.Plain

theorem ret_int {k : IntKind} {a b : Int} (h : a = b) : Ending.returned (.int k a) = .returned (.int k b) := by rw [h]
theorem ret_bool {a b : Bool} (h : a = b) : Ending.returned (.bool a) = .returned (.bool b) := by rw [h]

theorem within_any (n lo hi : Int) (w : World) : Calls Tryz.prog 50 #[.int .i64 n, .int .i64 lo, .int .i64 hi] w fun e w' => e = .returned (.bool (inB n lo hi)) ∧ w = w' := by
  by_cases h1 : lo ≤ n
  · by_cases h2 : n ≤ hi
    · have hb : inB n lo hi = true := inB_iff.2 ⟨h1, h2⟩
      have HB := Lib.hid hb
      clear hb
      go_enter Tryz.func50, Tryz.ntmps50
      go_wp2
      go_ret
      exact ⟨ret_bool HB.out.symm, rfl⟩
    · have hb : inB n lo hi = false := inB_not.2 fun h => h2 h.2
      have HB := Lib.hid hb
      clear hb
      go_enter Tryz.func50, Tryz.ntmps50
      go_wp2
      go_ret
      exact ⟨ret_bool HB.out.symm, rfl⟩
  · have hb : inB n lo hi = false := inB_not.2 fun h => h1 h.1
    have HB := Lib.hid hb
    clear hb
    go_enter Tryz.func50, Tryz.ntmps50
    go_wp2
    go_ret
    exact ⟨ret_bool HB.out.symm, rfl⟩

theorem in_any (n lo hi : Int) (w : World) : Calls Tryz.prog 56 #[.int .i64 n, .int .i64 lo, .int .i64 hi] w fun e w' => e = .returned (.bool (inB n lo hi)) ∧ w = w' := by
  by_cases h1 : lo ≤ n
  · by_cases h2 : n ≤ hi
    · have hb : inB n lo hi = true := inB_iff.2 ⟨h1, h2⟩
      have HB := Lib.hid hb
      clear hb
      go_enter Tryz.func56, Tryz.ntmps56
      go_wp2
      go_ret
      exact ⟨ret_bool HB.out.symm, rfl⟩
    · have hb : inB n lo hi = false := inB_not.2 fun h => h2 h.2
      have HB := Lib.hid hb
      clear hb
      go_enter Tryz.func56, Tryz.ntmps56
      go_wp2
      go_ret
      exact ⟨ret_bool HB.out.symm, rfl⟩
  · have hb : inB n lo hi = false := inB_not.2 fun h => h1 h.1
    have HB := Lib.hid hb
    clear hb
    go_enter Tryz.func56, Tryz.ntmps56
    go_wp2
    go_ret
    exact ⟨ret_bool HB.out.symm, rfl⟩

theorem abs_any (n : Int) (hn : -4611686018427387904 ≤ n ∧ n ≤ 4611686018427387904) (w : World) : Calls Tryz.prog 70 #[.int .i64 n] w fun e w' => e = .returned (.int .i64 (absI n)) ∧ w = w' := by
  by_cases h1 : n < 0
  · have hb : -n = absI n := by unfold absI; rw [if_pos h1]
    have HB := Lib.hid hb
    clear hb
    go_enter Tryz.func70, Tryz.ntmps70
    go_wp2
    go_ret
    exact ⟨ret_int HB.out, rfl⟩
  · have hb : n = absI n := by unfold absI; rw [if_neg h1]
    have HB := Lib.hid hb
    clear hb
    go_enter Tryz.func70, Tryz.ntmps70
    go_wp2
    go_ret
    exact ⟨ret_int HB.out, rfl⟩

end Go.Proofs.YtlknncmnphbpkaaGreatDoor.WalkA
/- The walks of quotients, lines and units. -/
namespace Go.Proofs.YtlknncmnphbpkaaGreatDoor.WalkB
open Go.RowKit Go.Proofs.YtlknncmnphbpkaaGreatDoor.Plain Go.Proofs.YtlknncmnphbpkaaGreatDoor.WalkA

/-- Nothing but draws of the tape lies between two worlds. -/
def Drew (w w' : World) : Prop := ∃ n, w' = w.drewN n
theorem Drew.refl (w : World) : Drew w w := ⟨0, rfl⟩
theorem Drew.below {w w' : World} (h : Drew w w') (B : Nat) : Below B w w' := by
  obtain ⟨n, rfl⟩ := h
  exact ⟨rfl, rfl, rfl, Nat.le_refl _, fun _ _ => rfl⟩

theorem abs_same (n : Int) (hn : -4611686018427387904 ≤ n ∧ n ≤ 4611686018427387904) (w : World) : Calls Tryz.prog 70 #[.int .i64 n] w fun e w' => e = .returned (.int .i64 (absI n)) ∧ w' = w :=
  (abs_any n hn w).mono fun _ _ h => ⟨h.1, h.2.symm⟩

theorem specDiv_any (a b : Int) (ha : -1152921504606846976 ≤ a ∧ a ≤ 1152921504606846976) (hb : -1152921504606846976 ≤ b ∧ b ≤ 1152921504606846976) (h0 : b ≠ 0) (w : World) :
    Calls Tryz.prog 58 #[.int .i64 a, .int .i64 b] w fun e w' => e = .returned (.int .i64 (divR a b)) ∧ w = w' := by
  obtain ⟨ha1, ha2⟩ := ha
  obtain ⟨hb1, hb2⟩ := hb
  by_cases h1 : b < 0
  · by_cases h2 : 0 < a
    · have e : -((-b - 2 * -a) / (2 * -b)) = divR a b := by unfold divR posR; rw [if_pos h1, if_pos (by omega)]
      have HE := Lib.hid e
      have hq := ediv_bounds (x := -b - 2 * -a) (y := 2 * -b) (by omega) (by omega)
      obtain ⟨hq1, hq2⟩ := hq
      clear e h0
      go_enter Tryz.func58, Tryz.ntmps58
      go_wp2
      go_ret
      exact ⟨ret_int HE.out, rfl⟩
    · have e : (2 * -a + -b) / (2 * -b) = divR a b := by unfold divR posR; rw [if_pos h1, if_neg (by omega)]
      have HE := Lib.hid e
      have hq := ediv_bounds (x := 2 * -a + -b) (y := 2 * -b) (by omega) (by omega)
      obtain ⟨hq1, hq2⟩ := hq
      clear e h0
      go_enter Tryz.func58, Tryz.ntmps58
      go_wp2
      go_ret
      exact ⟨ret_int HE.out, rfl⟩
  · have h3 : 0 < b := by omega
    clear h1
    by_cases h2 : a < 0
    · have e : -((b - 2 * a) / (2 * b)) = divR a b := by unfold divR posR; rw [if_neg (by omega), if_pos (by omega)]
      have HE := Lib.hid e
      have hq := ediv_bounds (x := b - 2 * a) (y := 2 * b) (by omega) (by omega)
      obtain ⟨hq1, hq2⟩ := hq
      clear e h0
      go_enter Tryz.func58, Tryz.ntmps58
      go_wp2
      go_ret
      exact ⟨ret_int HE.out, rfl⟩
    · have e : (2 * a + b) / (2 * b) = divR a b := by unfold divR posR; rw [if_neg (by omega), if_neg (by omega)]
      have HE := Lib.hid e
      have hq := ediv_bounds (x := 2 * a + b) (y := 2 * b) (by omega) (by omega)
      obtain ⟨hq1, hq2⟩ := hq
      clear e h0
      go_enter Tryz.func58, Tryz.ntmps58
      go_wp2
      go_ret
      exact ⟨ret_int HE.out, rfl⟩

theorem nearest_any (a b : Int) (ha : -1152921504606846976 ≤ a ∧ a ≤ 1152921504606846976) (hb : -1152921504606846976 ≤ b ∧ b ≤ 1152921504606846976) (h0 : b ≠ 0) (w : World) :
    Calls Tryz.prog 52 #[.int .i64 a, .int .i64 b] w fun e w' => e = .returned (.int .i64 (divR a b)) ∧ Drew w w' := by
  rw [← nearR_eq a b h0]
  obtain ⟨ha1, ha2⟩ := ha
  obtain ⟨hb1, hb2⟩ := hb
  have hz : (b == 0) = false := by simpa using h0
  obtain ⟨m1, m2, m3, m4, m5, m6⟩ := nearR_bounds (a := a) h0
  have m7 : absI b ≤ 1152921504606846976 := by unfold absI; split <;> omega
  have m8 : absI a ≤ 1152921504606846976 := by unfold absI; split <;> omega
  go_enter Tryz.func52, Tryz.ntmps52
  go_wp2
  go_quiet ((go_at_call 70; exact Calls.quiet_of_same (abs_same _ (by omega) _)))
  go_wp2_with (go_at_call 70; refine (abs_any _ (by omega) _).mono ?_; rintro e w' ⟨rfl, rfl⟩)
  · have h1 : absI b - absI (a.tmod b) ≤ absI (a.tmod b) := by assumption
    have h2 : (!decide (a < 0) == decide (b < 0)) = true := by assumption
    go_ret
    exact ⟨ret_int (nearR_down h1 h2), _, rfl⟩
  · have h1 : absI b - absI (a.tmod b) ≤ absI (a.tmod b) := by assumption
    have h2 : (!decide (a < 0) == decide (b < 0)) = false := by assumption
    go_ret
    exact ⟨ret_int (nearR_up h1 h2), _, rfl⟩
  · have h1 : absI (a.tmod b) < absI b - absI (a.tmod b) := by assumption
    go_ret
    exact ⟨ret_int (nearR_stay h1), _, rfl⟩
end Go.Proofs.YtlknncmnphbpkaaGreatDoor.WalkB
/- The walks of quotients with limits, lines, hours and work days: program and reference each return the same plain function. -/
namespace Go.Proofs.YtlknncmnphbpkaaGreatDoor.WalkC
open Go.RowKit Go.Proofs.YtlknncmnphbpkaaGreatDoor.Plain Go.Proofs.YtlknncmnphbpkaaGreatDoor.WalkA Go.Proofs.YtlknncmnphbpkaaGreatDoor.WalkB

theorem isValue_any (n : Int) (w : World) : Calls Tryz.prog 66 #[.int .i64 n] w fun e w' => e = .returned (.bool (inB n (-1000000000000) 1000000000000)) ∧ w = w' := by
  go_enter Tryz.func66, Tryz.ntmps66
  go_wp2_with (go_at_call 50; refine (within_any _ _ _ _).mono ?_; rintro e w' ⟨rfl, rfl⟩)
  go_ret
  exact ⟨rfl, rfl⟩
def divRoundI (a b : Int) : Int := if b = 0 then 0 else if inB a (-1000000000000) 1000000000000 = true then (if inB b (-1000000000000) 1000000000000 = true then divR a b else 0) else 0
theorem divRound_zero {a b : Int} (h : b = 0) : 0 = divRoundI a b := by unfold divRoundI; rw [if_pos h]
theorem divRound_a {a b : Int} (h : b ≠ 0) (ha : inB a (-1000000000000) 1000000000000 = false) : 0 = divRoundI a b := by unfold divRoundI; rw [if_neg h, if_neg (by simp [ha])]
theorem divRound_b {a b : Int} (h : b ≠ 0) (ha : inB a (-1000000000000) 1000000000000 = true) (hb : inB b (-1000000000000) 1000000000000 = false) : 0 = divRoundI a b := by unfold divRoundI; rw [if_neg h, if_pos ha, if_neg (by simp [hb])]
theorem divRound_ok {a b : Int} (h : b ≠ 0) (ha : inB a (-1000000000000) 1000000000000 = true) (hb : inB b (-1000000000000) 1000000000000 = true) : divR a b = divRoundI a b := by unfold divRoundI; rw [if_neg h, if_pos ha, if_pos hb]

theorem ret_two {a b c d : Int} (h : a = c) (k : b = d) : Ending.returned (.tuple #[.int .i64 a, .int .i64 b]) = .returned (.tuple #[.int .i64 c, .int .i64 d]) := by rw [h, k]
def codeI (c : Bool) : Int := if c = true then 0 else 2
def valI (c : Bool) (v : Int) : Int := if c = true then v else 0

theorem ceil_any (a b : Int) (ha : 0 ≤ a ∧ a ≤ 1000000000000) (hb : 1 ≤ b ∧ b ≤ 1000000000000) (w : World) : Calls Tryz.prog 41 #[.int .i64 a, .int .i64 b] w fun e w' => e = .returned (.int .i64 ((a + b - 1) / b)) ∧ w = w' := by
  obtain ⟨ha1, ha2⟩ := ha
  obtain ⟨hb1, hb2⟩ := hb
  have hz : (b == 0) = false := by simp; omega
  have hq := ediv_bounds (x := a + b - 1) (y := b) (by omega) (by omega)
  obtain ⟨hq1, hq2⟩ := hq
  go_enter Tryz.func41, Tryz.ntmps41
  go_wp2
  go_ret
  exact ⟨rfl, rfl⟩
def secB (a b : Int) : Bool := inB a 0 1000000000 && inB b 1 1000000000
def spanB (a b : Int) : Bool := inB a 0 36524 && inB b a 36525
theorem wd_last {a b : Int} {k : Nat} (h1 : a + k = b) : k = (b - a).toNat := by omega
end Go.Proofs.YtlknncmnphbpkaaGreatDoor.WalkC
/- The walks of the calendar: lengths of months, days of dates, dates of days. -/
namespace Go.Proofs.YtlknncmnphbpkaaGreatDoor.WalkD
open Go.RowKit Go.Proofs.YtlknncmnphbpkaaGreatDoor.Plain Go.Proofs.YtlknncmnphbpkaaGreatDoor.WalkA Go.Proofs.YtlknncmnphbpkaaGreatDoor.WalkB Go.Proofs.YtlknncmnphbpkaaGreatDoor.WalkC

theorem monL_2_29 {y : Int} (h : y % 4 = 0) : monL y 2 = 29 := by simp [monL, h]
theorem monL_2_28 {y : Int} (h : y % 4 ≠ 0) : monL y 2 = 28 := by simp [monL, h]
theorem twelve {m : Int} (h1 : 1 ≤ m) (h2 : m ≤ 12) : m = 1 ∨ m = 2 ∨ m = 3 ∨ m = 4 ∨ m = 5 ∨ m = 6 ∨ m = 7 ∨ m = 8 ∨ m = 9 ∨ m = 10 ∨ m = 11 ∨ m = 12 := by omega

theorem dayN_start (y : Int) : dayN y 1 1 = dby y := by unfold dayN; rw [cum_one]; omega
theorem cum_last (y m : Int) (h1 : 1 ≤ m) (h2 : m < 13) : cum y m ≤ cum y 13 - 28 := by
  have := cum_succ y m h1 (by omega)
  have := cum_mono y (m + 1) 13 (by omega) (by omega) (by omega)
  have := monL_bd y m
  omega
theorem ret_three {day y m d y' m' d' : Int} (h : IsDate day y' m' d') (k : IsDate day y m d) :
    Ending.returned (.tuple #[.int .i64 y', .int .i64 m', .int .i64 d']) = .returned (.tuple #[.int .i64 y, .int .i64 m, .int .i64 d]) := by
  obtain ⟨rfl, rfl, rfl⟩ := h.same k
  rfl
end Go.Proofs.YtlknncmnphbpkaaGreatDoor.WalkD
/- The walks of the reference's calendar, and of both functions on dates. -/
namespace Go.Proofs.YtlknncmnphbpkaaGreatDoor.WalkE
open Go.RowKit Go.Proofs.YtlknncmnphbpkaaGreatDoor.Plain Go.Proofs.YtlknncmnphbpkaaGreatDoor.WalkA Go.Proofs.YtlknncmnphbpkaaGreatDoor.WalkB Go.Proofs.YtlknncmnphbpkaaGreatDoor.WalkC Go.Proofs.YtlknncmnphbpkaaGreatDoor.WalkD

def dateB (y m d : Int) : Bool := inB y 2000 2099 && (inB m 1 12 && inB d 1 (monL y m))
theorem dateB_y {y m d : Int} (h : inB y 2000 2099 = false) : dateB y m d = false := by simp [dateB, h]
theorem dateB_m {y m d : Int} (h : inB m 1 12 = false) : dateB y m d = false := by simp [dateB, h]
theorem dateB_d {y m d : Int} (h : inB d 1 (monL y m) = false) : dateB y m d = false := by simp [dateB, h]
theorem dateB_ok {y m d : Int} (h : inB y 2000 2099 = true) (k : inB m 1 12 = true) (l : inB d 1 (monL y m) = true) : dateB y m d = true := by simp [dateB, h, k, l]
theorem ret_num {a b : Int} (h : a = b) : Ending.returned (.tuple #[.int .i64 a, .bool true]) = .returned (.tuple #[.int .i64 b, .bool true]) := by rw [h]
theorem dby_leap {j : Int} (h : j % 4 = 0) : dby (j + 1) = dby j + 365 + 1 := by rw [dby_succ]; simp [lp, h]
theorem dby_flat {j : Int} (h : j % 4 ≠ 0) : dby (j + 1) = dby j + 365 := by rw [dby_succ]; simp [lp, h]
theorem date_exists (k : Nat) : (k : Int) ≤ 36524 → ∃ y m d, IsDate k y m d := by
  induction k with
  | zero => intro _; exact ⟨2000, 1, 1, by omega, by omega, by omega, by omega, by omega, by decide, by decide⟩
  | succ k ih =>
    intro hk
    obtain ⟨y, m, d, h1, h2, h3, h4, h5, h6, h7⟩ := ih (by omega)
    unfold dayN at h7
    by_cases c1 : d < monL y m
    · exact ⟨y, m, d + 1, h1, h2, h3, h4, by omega, by omega, by unfold dayN; omega⟩
    by_cases c2 : m < 12
    · have := cum_succ y m h3 h4
      have := monL_bd y (m + 1)
      exact ⟨y, m + 1, 1, h1, h2, by omega, by omega, by omega, by omega, by unfold dayN; omega⟩
    · have hm : m = 12 := by omega
      subst hm
      have e1 := cum_succ y 12 (by omega) (by omega)
      have e2 := cum_13 y
      have e3 := dby_succ y
      have e4 : cum y (12 + 1) = cum y 13 := rfl
      have hy : y < 2099 := by
        apply Int.not_le.1
        intro h
        have : y = 2099 := by omega
        subst this
        have e5 : dby (2099 + 1) = 36525 := dby_2100
        omega
      have e6 := monL_bd (y + 1) 1
      exact ⟨y + 1, 1, 1, by omega, by omega, by omega, by omega, by omega, by omega, by unfold dayN; rw [cum_one]; omega⟩

theorem dayN_step {y m d : Int} (h1 : 1 ≤ m) (h2 : m < 12) : dayN y (m + 1) d = dayN y m d + monL y m := by
  have := cum_succ y m h1 (by omega); unfold dayN; omega
theorem dayN_year {y d : Int} : dayN (y + 1) 1 d = dayN y 12 d + monL y 12 := by
  have e1 := cum_succ y 12 (by omega) (by omega)
  have e2 := cum_13 y
  have e3 := dby_succ y
  have e4 : cum y (12 + 1) = cum y 13 := rfl
  unfold dayN; rw [cum_one]; omega
theorem dayN_late {y m d : Int} (hy : 2100 ≤ y) (hd : 1 ≤ d) : 36525 ≤ dayN y m d := by
  have h1 := dby_mono 2100 y hy
  have h2 := cum_bd y m
  have h3 := dby_2100
  unfold dayN; omega
def dateV (c : Bool) (y m d : Int) : Value := .tuple #[.int .i64 (valI c y), .int .i64 (valI c m), .int .i64 (valI c d), .int .i64 (codeI c)]
theorem results_tmp4 {fn : Func} {t u v x : Tmp} (h : fn.results = #[.tmp t, .tmp u, .tmp v, .tmp x]) (tmps : Array Value) (P : Program) (w : World) :
    (results fn tmps).run P w = .ok (.tuple #[tmps.getD t undef, tmps.getD u undef, tmps.getD v undef, tmps.getD x undef]) w := by simp [results, h]
end Go.Proofs.YtlknncmnphbpkaaGreatDoor.WalkE

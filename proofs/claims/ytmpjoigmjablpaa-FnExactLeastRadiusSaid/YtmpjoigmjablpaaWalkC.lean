/- The walks of quotients with limits, lines, hours and work days: program and reference each return the same plain function. -/
import Derived.Test.YtmpjoigmjablpaaWalkB
namespace Go.Proofs.Ytmpjoigmjablpaa.WalkC
open Go.RowKit Go.Proofs.Ytmpjoigmjablpaa.Plain Go.Proofs.Ytmpjoigmjablpaa.WalkA Go.Proofs.Ytmpjoigmjablpaa.WalkB

theorem isValue_any (n : Int) (w : World) : Calls Try.prog 58 #[.int .i64 n] w fun e w' => e = .returned (.bool (inB n (-1000000000000) 1000000000000)) ∧ w = w' := by
  go_enter Try.func58, Try.ntmps58
  go_wp2_with (go_at_call 47; refine (within_any _ _ _ _).mono ?_; rintro e w' ⟨rfl, rfl⟩)
  go_ret
  exact ⟨rfl, rfl⟩
theorem isUnit_any (n : Int) (w : World) : Calls Try.prog 46 #[.int .i64 n] w fun e w' => e = .returned (.bool (inB n 0 1000000000)) ∧ w = w' := by
  go_enter Try.func46, Try.ntmps46
  go_wp2_with (go_at_call 47; refine (within_any _ _ _ _).mono ?_; rintro e w' ⟨rfl, rfl⟩)
  go_ret
  exact ⟨rfl, rfl⟩
theorem isDay_any (n : Int) (w : World) : Calls Try.prog 51 #[.int .i64 n] w fun e w' => e = .returned (.bool (inB n 0 36524)) ∧ w = w' := by
  go_enter Try.func51, Try.ntmps51
  go_wp2_with (go_at_call 47; refine (within_any _ _ _ _).mono ?_; rintro e w' ⟨rfl, rfl⟩)
  go_ret
  exact ⟨rfl, rfl⟩
theorem mass_any (n : Int) (w : World) : Calls Try.prog 44 #[.int .i64 n] w fun e w' => e = .returned (.bool (inB n 0 1000000000)) ∧ w = w' := by
  go_enter Try.func44, Try.ntmps44
  go_wp2_with (go_at_call 43; refine (in_any _ _ _ _).mono ?_; rintro e w' ⟨rfl, rfl⟩)
  go_ret
  exact ⟨rfl, rfl⟩
theorem bottom_any (n : Int) (w : World) : Calls Try.prog 45 #[.int .i64 n] w fun e w' => e = .returned (.bool (inB n 1 1000000000)) ∧ w = w' := by
  go_enter Try.func45, Try.ntmps45
  go_wp2_with (go_at_call 43; refine (in_any _ _ _ _).mono ?_; rintro e w' ⟨rfl, rfl⟩)
  go_ret
  exact ⟨rfl, rfl⟩
theorem day_any (n : Int) (w : World) : Calls Try.prog 49 #[.int .i64 n] w fun e w' => e = .returned (.bool (inB n 0 36524)) ∧ w = w' := by
  go_enter Try.func49, Try.ntmps49
  go_wp2_with (go_at_call 43; refine (in_any _ _ _ _).mono ?_; rintro e w' ⟨rfl, rfl⟩)
  go_ret
  exact ⟨rfl, rfl⟩

/-! ### DivRound -/
def divRoundI (a b : Int) : Int := if b = 0 then 0 else if inB a (-1000000000000) 1000000000000 = true then (if inB b (-1000000000000) 1000000000000 = true then divR a b else 0) else 0
theorem divRound_zero {a b : Int} (h : b = 0) : 0 = divRoundI a b := by unfold divRoundI; rw [if_pos h]
theorem divRound_a {a b : Int} (h : b ≠ 0) (ha : inB a (-1000000000000) 1000000000000 = false) : 0 = divRoundI a b := by unfold divRoundI; rw [if_neg h, if_neg (by simp [ha])]
theorem divRound_b {a b : Int} (h : b ≠ 0) (ha : inB a (-1000000000000) 1000000000000 = true) (hb : inB b (-1000000000000) 1000000000000 = false) : 0 = divRoundI a b := by unfold divRoundI; rw [if_neg h, if_pos ha, if_neg (by simp [hb])]
theorem divRound_ok {a b : Int} (h : b ≠ 0) (ha : inB a (-1000000000000) 1000000000000 = true) (hb : inB b (-1000000000000) 1000000000000 = true) : divR a b = divRoundI a b := by unfold divRoundI; rw [if_neg h, if_pos ha, if_pos hb]

theorem implDivRound_any (a b : Int) (w : World) : Calls Try.prog 32 #[.int .i64 a, .int .i64 b] w fun e w' => e = .returned (.int .i64 (divRoundI a b)) ∧ Drew w w' := by
  by_cases h0 : b = 0
  · have HE := Lib.hid (divRound_zero (a := a) h0)
    subst h0
    go_enter Try.func32, Try.ntmps32
    go_wp2
    go_ret
    exact ⟨ret_int HE.out, Drew.refl _⟩
  have hz : (b == 0) = false := by simpa using h0
  cases ha : inB a (-1000000000000) 1000000000000
  · have HE := Lib.hid (divRound_a h0 ha)
    clear h0
    go_enter Try.func32, Try.ntmps32
    go_wp2_with (go_at_call 58; refine (isValue_any _ _).mono ?_; rintro e w' ⟨rfl, rfl⟩)
    go_ret
    exact ⟨ret_int HE.out, Drew.refl _⟩
  cases hb : inB b (-1000000000000) 1000000000000
  · have HE := Lib.hid (divRound_b h0 ha hb)
    clear h0
    go_enter Try.func32, Try.ntmps32
    go_wp2_with (go_at_call 58; refine (isValue_any _ _).mono ?_; rintro e w' ⟨rfl, rfl⟩)
    go_ret
    exact ⟨ret_int HE.out, Drew.refl _⟩
  · have HE := Lib.hid (divRound_ok h0 ha hb)
    have HN := fun w => nearest_any a b (by have := inB_iff.1 ha; omega) (by have := inB_iff.1 hb; omega) h0 w
    clear h0
    go_enter Try.func32, Try.ntmps32
    go_wp2_with (first | (go_at_call 58; refine (isValue_any _ _).mono ?_; rintro e w' ⟨rfl, rfl⟩) | (go_at_call 59; refine (HN _).mono ?_; rintro e w' ⟨rfl, hd⟩))
    go_ret
    exact ⟨ret_int HE.out, hd⟩

theorem specDivRound_any (a b : Int) (w : World) : Calls Try.prog 31 #[.int .i64 a, .int .i64 b] w fun e w' => e = .returned (.int .i64 (divRoundI a b)) ∧ w = w' := by
  by_cases h0 : b = 0
  · have HE := Lib.hid (divRound_zero (a := a) h0)
    subst h0
    go_enter Try.func31, Try.ntmps31
    go_wp2
    go_ret
    exact ⟨ret_int HE.out, rfl⟩
  have hz : (b == 0) = false := by simpa using h0
  cases ha : inB a (-1000000000000) 1000000000000
  · have HE := Lib.hid (divRound_a h0 ha)
    clear h0
    go_enter Try.func31, Try.ntmps31
    go_wp2_with (go_at_call 43; refine (in_any _ _ _ _).mono ?_; rintro e w' ⟨rfl, rfl⟩)
    go_ret
    exact ⟨ret_int HE.out, rfl⟩
  cases hb : inB b (-1000000000000) 1000000000000
  · have HE := Lib.hid (divRound_b h0 ha hb)
    clear h0
    go_enter Try.func31, Try.ntmps31
    go_wp2_with (go_at_call 43; refine (in_any _ _ _ _).mono ?_; rintro e w' ⟨rfl, rfl⟩)
    go_ret
    exact ⟨ret_int HE.out, rfl⟩
  · have HE := Lib.hid (divRound_ok h0 ha hb)
    have HN := fun w => specDiv_any a b (by have := inB_iff.1 ha; omega) (by have := inB_iff.1 hb; omega) h0 w
    clear h0
    go_enter Try.func31, Try.ntmps31
    go_wp2_with (first | (go_at_call 43; refine (in_any _ _ _ _).mono ?_; rintro e w' ⟨rfl, rfl⟩) | (go_at_call 57; refine (HN _).mono ?_; rintro e w' ⟨rfl, rfl⟩))
    go_ret
    exact ⟨ret_int HE.out, rfl⟩

/-! ### HourSpeed, SecondsFor, WeekdayOf -/
theorem ret_two {a b c d : Int} (h : a = c) (k : b = d) : Ending.returned (.tuple #[.int .i64 a, .int .i64 b]) = .returned (.tuple #[.int .i64 c, .int .i64 d]) := by rw [h, k]
def codeI (c : Bool) : Int := if c = true then 0 else 2
def valI (c : Bool) (v : Int) : Int := if c = true then v else 0

theorem implHour_any (n : Int) (w : World) : Calls Try.prog 34 #[.int .i64 n] w fun e w' => e = .returned (.tuple #[.int .i64 (valI (inB n 0 1000000000) (divR (36 * n) 10)), .int .i64 (codeI (inB n 0 1000000000))]) ∧ Drew w w' := by
  cases h : inB n 0 1000000000
  · go_enter Try.func34, Try.ntmps34
    go_wp2_with (go_at_call 46; refine (isUnit_any _ _).mono ?_; rintro e w' ⟨rfl, rfl⟩)
    go_ret2
    exact ⟨rfl, Drew.refl _⟩
  · obtain ⟨h1, h2⟩ := inB_iff.1 h
    go_enter Try.func34, Try.ntmps34
    go_wp2_with (first | (go_at_call 46; refine (isUnit_any _ _).mono ?_; rintro e w' ⟨rfl, rfl⟩) | (go_at_call 59; refine (nearest_any _ _ (by omega) (by omega) (by omega) _).mono ?_; rintro e w' ⟨rfl, hd⟩))
    go_ret2
    exact ⟨rfl, hd⟩
theorem specHour_any (n : Int) (w : World) : Calls Try.prog 33 #[.int .i64 n] w fun e w' => e = .returned (.tuple #[.int .i64 (valI (inB n 0 1000000000) (divR (36 * n) 10)), .int .i64 (codeI (inB n 0 1000000000))]) ∧ w = w' := by
  cases h : inB n 0 1000000000
  · go_enter Try.func33, Try.ntmps33
    go_wp2_with (go_at_call 44; refine (mass_any _ _).mono ?_; rintro e w' ⟨rfl, rfl⟩)
    go_ret2
    exact ⟨rfl, rfl⟩
  · obtain ⟨h1, h2⟩ := inB_iff.1 h
    go_enter Try.func33, Try.ntmps33
    go_wp2_with (first | (go_at_call 44; refine (mass_any _ _).mono ?_; rintro e w' ⟨rfl, rfl⟩) | (go_at_call 57; refine (specDiv_any _ _ (by omega) (by omega) (by omega) _).mono ?_; rintro e w' ⟨rfl, rfl⟩))
    go_ret2
    exact ⟨rfl, rfl⟩

theorem ceil_any (a b : Int) (ha : 0 ≤ a ∧ a ≤ 1000000000000) (hb : 1 ≤ b ∧ b ≤ 1000000000000) (w : World) : Calls Try.prog 48 #[.int .i64 a, .int .i64 b] w fun e w' => e = .returned (.int .i64 ((a + b - 1) / b)) ∧ w = w' := by
  obtain ⟨ha1, ha2⟩ := ha
  obtain ⟨hb1, hb2⟩ := hb
  have hz : (b == 0) = false := by simp; omega
  have hq := ediv_bounds (x := a + b - 1) (y := b) (by omega) (by omega)
  obtain ⟨hq1, hq2⟩ := hq
  go_enter Try.func48, Try.ntmps48
  go_wp2
  go_ret
  exact ⟨rfl, rfl⟩
def secB (a b : Int) : Bool := inB a 0 1000000000 && inB b 1 1000000000
theorem implSec_any (a b : Int) (w : World) : Calls Try.prog 20 #[.int .i64 a, .int .i64 b] w fun e w' => e = .returned (.tuple #[.int .i64 (valI (secB a b) ((a + b - 1) / b)), .int .i64 (codeI (secB a b))]) ∧ w = w' := by
  cases h : inB a 0 1000000000
  · have hs : secB a b = false := by simp [secB, h]
    rw [hs]
    go_enter Try.func20, Try.ntmps20
    go_wp2_with (go_at_call 46; refine (isUnit_any _ _).mono ?_; rintro e w' ⟨rfl, rfl⟩)
    go_ret2
    exact ⟨rfl, rfl⟩
  cases k : inB b 1 1000000000
  · have hs : secB a b = false := by simp [secB, k]
    rw [hs]
    go_enter Try.func20, Try.ntmps20
    go_wp2_with (first | (go_at_call 46; refine (isUnit_any _ _).mono ?_; rintro e w' ⟨rfl, rfl⟩) | (go_at_call 47; refine (within_any _ _ _ _).mono ?_; rintro e w' ⟨rfl, rfl⟩))
    go_ret2
    exact ⟨rfl, rfl⟩
  · have hs : secB a b = true := by simp [secB, h, k]
    rw [hs]
    obtain ⟨h1, h2⟩ := inB_iff.1 h
    obtain ⟨k1, k2⟩ := inB_iff.1 k
    go_enter Try.func20, Try.ntmps20
    go_wp2_with (first | (go_at_call 46; refine (isUnit_any _ _).mono ?_; rintro e w' ⟨rfl, rfl⟩) | (go_at_call 47; refine (within_any _ _ _ _).mono ?_; rintro e w' ⟨rfl, rfl⟩) | (go_at_call 48; refine (ceil_any _ _ (by omega) (by omega) _).mono ?_; rintro e w' ⟨rfl, rfl⟩))
    go_ret2
    exact ⟨rfl, rfl⟩
theorem specSec_any (a b : Int) (w : World) : Calls Try.prog 19 #[.int .i64 a, .int .i64 b] w fun e w' => e = .returned (.tuple #[.int .i64 (valI (secB a b) ((a + b - 1) / b)), .int .i64 (codeI (secB a b))]) ∧ w = w' := by
  cases h : inB a 0 1000000000
  · have hs : secB a b = false := by simp [secB, h]
    rw [hs]
    go_enter Try.func19, Try.ntmps19
    go_wp2_with (go_at_call 44; refine (mass_any _ _).mono ?_; rintro e w' ⟨rfl, rfl⟩)
    go_ret2
    exact ⟨rfl, rfl⟩
  cases k : inB b 1 1000000000
  · have hs : secB a b = false := by simp [secB, k]
    rw [hs]
    go_enter Try.func19, Try.ntmps19
    go_wp2_with (first | (go_at_call 44; refine (mass_any _ _).mono ?_; rintro e w' ⟨rfl, rfl⟩) | (go_at_call 45; refine (bottom_any _ _).mono ?_; rintro e w' ⟨rfl, rfl⟩))
    go_ret2
    exact ⟨rfl, rfl⟩
  · have hs : secB a b = true := by simp [secB, h, k]
    rw [hs]
    obtain ⟨h1, h2⟩ := inB_iff.1 h
    obtain ⟨k1, k2⟩ := inB_iff.1 k
    have hz : (b == 0) = false := by simp; omega
    have hq := ediv_bounds (x := a + b - 1) (y := b) (by omega) (by omega)
    obtain ⟨hq1, hq2⟩ := hq
    go_enter Try.func19, Try.ntmps19
    go_wp2_with (first | (go_at_call 44; refine (mass_any _ _).mono ?_; rintro e w' ⟨rfl, rfl⟩) | (go_at_call 45; refine (bottom_any _ _).mono ?_; rintro e w' ⟨rfl, rfl⟩))
    go_ret2
    exact ⟨rfl, rfl⟩

theorem weekday_any (n : Int) (hn : 0 ≤ n ∧ n ≤ 100000) (w : World) : Calls Try.prog 52 #[.int .i64 n] w fun e w' => e = .returned (.int .i64 ((n + 5) % 7)) ∧ w = w' := by
  obtain ⟨h1, h2⟩ := hn
  go_enter Try.func52, Try.ntmps52
  go_wp2
  go_ret
  exact ⟨rfl, rfl⟩
theorem specWeekday_any (n : Int) (hn : 0 ≤ n ∧ n ≤ 100000) (w : World) : Calls Try.prog 50 #[.int .i64 n] w fun e w' => e = .returned (.int .i64 ((n + 5) % 7)) ∧ w = w' := by
  obtain ⟨h1, h2⟩ := hn
  go_enter Try.func50, Try.ntmps50
  go_wp2
  go_ret
  exact ⟨rfl, rfl⟩
theorem implWeekdayOf_any (n : Int) (w : World) : Calls Try.prog 22 #[.int .i64 n] w fun e w' => e = .returned (.tuple #[.int .i64 (valI (inB n 0 36524) ((n + 5) % 7)), .int .i64 (codeI (inB n 0 36524))]) ∧ w = w' := by
  cases h : inB n 0 36524
  · go_enter Try.func22, Try.ntmps22
    go_wp2_with (go_at_call 51; refine (isDay_any _ _).mono ?_; rintro e w' ⟨rfl, rfl⟩)
    go_ret2
    exact ⟨rfl, rfl⟩
  · obtain ⟨h1, h2⟩ := inB_iff.1 h
    go_enter Try.func22, Try.ntmps22
    go_wp2_with (first | (go_at_call 51; refine (isDay_any _ _).mono ?_; rintro e w' ⟨rfl, rfl⟩) | (go_at_call 52; refine (weekday_any _ (by omega) _).mono ?_; rintro e w' ⟨rfl, rfl⟩))
    go_ret2
    exact ⟨rfl, rfl⟩
theorem specWeekdayOf_any (n : Int) (w : World) : Calls Try.prog 21 #[.int .i64 n] w fun e w' => e = .returned (.tuple #[.int .i64 (valI (inB n 0 36524) ((n + 5) % 7)), .int .i64 (codeI (inB n 0 36524))]) ∧ w = w' := by
  cases h : inB n 0 36524
  · go_enter Try.func21, Try.ntmps21
    go_wp2_with (go_at_call 49; refine (day_any _ _).mono ?_; rintro e w' ⟨rfl, rfl⟩)
    go_ret2
    exact ⟨rfl, rfl⟩
  · obtain ⟨h1, h2⟩ := inB_iff.1 h
    go_enter Try.func21, Try.ntmps21
    go_wp2_with (first | (go_at_call 49; refine (day_any _ _).mono ?_; rintro e w' ⟨rfl, rfl⟩) | (go_at_call 50; refine (specWeekday_any _ (by omega) _).mono ?_; rintro e w' ⟨rfl, rfl⟩))
    go_ret2
    exact ⟨rfl, rfl⟩

/-! ### WorkDays -/
def spanB (a b : Int) : Bool := inB a 0 36524 && inB b a 36525
theorem span_any (a b : Int) (w : World) : Calls Try.prog 55 #[.int .i64 a, .int .i64 b] w fun e w' => e = .returned (.bool (spanB a b)) ∧ w = w' := by
  cases h : inB a 0 36524
  · have hs : spanB a b = false := by simp [spanB, h]
    rw [hs]
    go_enter Try.func55, Try.ntmps55
    go_wp2_with (go_at_call 49; refine (day_any _ _).mono ?_; rintro e w' ⟨rfl, rfl⟩)
    go_ret
    exact ⟨rfl, rfl⟩
  · have hs : spanB a b = inB b a 36525 := by simp [spanB, h]
    rw [hs]
    go_enter Try.func55, Try.ntmps55
    go_wp2_with (first | (go_at_call 49; refine (day_any _ _).mono ?_; rintro e w' ⟨rfl, rfl⟩) | (go_at_call 43; refine (in_any _ _ _ _).mono ?_; rintro e w' ⟨rfl, rfl⟩))
    go_ret
    exact ⟨rfl, rfl⟩
theorem wd_last {a b : Int} {k : Nat} (h1 : a + k = b) : k = (b - a).toNat := by omega
theorem implWork_any (a b : Int) (w : World) : Calls Try.prog 28 #[.int .i64 a, .int .i64 b] w fun e w' => e = .returned (.tuple #[.int .i64 (valI (spanB a b) (wd a (b - a).toNat)), .int .i64 (codeI (spanB a b))]) ∧ w = w' := by
  cases h : inB a 0 36524
  · have hs : spanB a b = false := by simp [spanB, h]
    rw [hs]
    go_enter Try.func28, Try.ntmps28
    go_wp2_with (go_at_call 51; refine (isDay_any _ _).mono ?_; rintro e w' ⟨rfl, rfl⟩)
    go_ret2
    exact ⟨rfl, rfl⟩
  cases k : inB b a 36525
  · have hs : spanB a b = false := by simp [spanB, k]
    rw [hs]
    go_enter Try.func28, Try.ntmps28
    go_wp2_with (first | (go_at_call 51; refine (isDay_any _ _).mono ?_; rintro e w' ⟨rfl, rfl⟩) | (go_at_call 47; refine (within_any _ _ _ _).mono ?_; rintro e w' ⟨rfl, rfl⟩))
    go_ret2
    exact ⟨rfl, rfl⟩
  · have hs : spanB a b = true := by simp [spanB, h, k]
    rw [hs]
    obtain ⟨h1, h2⟩ := inB_iff.1 h
    obtain ⟨k1, k2⟩ := inB_iff.1 k
    go_enter Try.func28, Try.ntmps28
    go_wp2_with (first | (go_at_call 51; refine (isDay_any _ _).mono ?_; rintro e w' ⟨rfl, rfl⟩) | (go_at_call 47; refine (within_any _ _ _ _).mono ?_; rintro e w' ⟨rfl, rfl⟩))
    go_loop [6, 7] (fun c d => ∃ j : Nat, a + j ≤ b ∧ c = .int .i64 (wd a j) ∧ d = .int .i64 (a + j)) (fun _ d => (b - intOf d).toNat)
    case atStart => exact ⟨0, by omega, rfl, by go_num⟩
    case round =>
      obtain ⟨j, hj, rfl, rfl⟩ := hrel
      have hb := wd_bd a j
      obtain ⟨hb1, hb2⟩ := hb
      by_cases hlt : a + j < b
      · by_cases hw : (a + j + 5) % 7 < 5
        · have hs : wd a (j + 1) = wd a j + 1 := by simp [wd, hw]
          have HS := Lib.hid hs
          clear hs
          go_wp2_with (go_at_call 52; refine (weekday_any _ (by omega) _).mono ?_; rintro e w' ⟨rfl, rfl⟩)
          go_round
          case rel => exact ⟨j + 1, by omega, by rw [HS.out], by go_num⟩
          case measure => simp [intOf]; omega
        · have hs : wd a (j + 1) = wd a j := by simp [wd, hw]
          have HS := Lib.hid hs
          clear hs
          go_wp2_with (go_at_call 52; refine (weekday_any _ (by omega) _).mono ?_; rintro e w' ⟨rfl, rfl⟩)
          go_round
          case rel => exact ⟨j + 1, by omega, by rw [HS.out], by go_num⟩
          case measure => simp [intOf]; omega
      · go_wp2
        go_ret2
        exact ⟨ret_two (by rw [← wd_last (a := a) (b := b) (k := j) (by omega)]; rfl) rfl, rfl⟩
theorem specWork_any (a b : Int) (w : World) : Calls Try.prog 27 #[.int .i64 a, .int .i64 b] w fun e w' => e = .returned (.tuple #[.int .i64 (valI (spanB a b) (wd a (b - a).toNat)), .int .i64 (codeI (spanB a b))]) ∧ w = w' := by
  cases hs : spanB a b
  · go_enter Try.func27, Try.ntmps27
    go_wp2_with (go_at_call 55; refine (span_any _ _ _).mono ?_; rintro e w' ⟨rfl, rfl⟩)
    go_ret2
    exact ⟨rfl, rfl⟩
  · have hs' := hs
    simp only [spanB, Bool.and_eq_true] at hs'
    obtain ⟨h1, h2⟩ := inB_iff.1 hs'.1
    obtain ⟨k1, k2⟩ := inB_iff.1 hs'.2
    clear hs'
    go_enter Try.func27, Try.ntmps27
    go_wp2_with (go_at_call 55; refine (span_any _ _ _).mono ?_; rintro e w' ⟨rfl, rfl⟩)
    go_loop [6, 7] (fun c d => ∃ j : Nat, a + j ≤ b ∧ c = .int .i64 (wd a j) ∧ d = .int .i64 (a + j)) (fun _ d => (b - intOf d).toNat)
    case atStart => exact ⟨0, by omega, rfl, by go_num⟩
    case round =>
      obtain ⟨j, hj, rfl, rfl⟩ := hrel
      have hb := wd_bd a j
      obtain ⟨hb1, hb2⟩ := hb
      by_cases hlt : a + j < b
      · by_cases hw : (a + j + 5) % 7 < 5
        · have hs : wd a (j + 1) = wd a j + 1 := by simp [wd, hw]
          have HS := Lib.hid hs
          clear hs
          go_wp2_with (go_at_call 50; refine (specWeekday_any _ (by omega) _).mono ?_; rintro e w' ⟨rfl, rfl⟩)
          go_round
          case rel => exact ⟨j + 1, by omega, by rw [HS.out], by go_num⟩
          case measure => simp [intOf]; omega
        · have hs : wd a (j + 1) = wd a j := by simp [wd, hw]
          have HS := Lib.hid hs
          clear hs
          go_wp2_with (go_at_call 50; refine (specWeekday_any _ (by omega) _).mono ?_; rintro e w' ⟨rfl, rfl⟩)
          go_round
          case rel => exact ⟨j + 1, by omega, by rw [HS.out], by go_num⟩
          case measure => simp [intOf]; omega
      · go_wp2
        go_ret2
        exact ⟨ret_two (by rw [← wd_last (a := a) (b := b) (k := j) (by omega)]; rfl) rfl, rfl⟩
end Go.Proofs.Ytmpjoigmjablpaa.WalkC

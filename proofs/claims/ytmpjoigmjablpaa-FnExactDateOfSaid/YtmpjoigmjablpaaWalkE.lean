/- The walks of the reference's calendar, and of both functions on dates. -/
import Derived.Test.YtmpjoigmjablpaaWalkD
namespace Go.Proofs.Ytmpjoigmjablpaa.WalkE
open Go.RowKit Go.Proofs.Ytmpjoigmjablpaa.Plain Go.Proofs.Ytmpjoigmjablpaa.WalkA Go.Proofs.Ytmpjoigmjablpaa.WalkB Go.Proofs.Ytmpjoigmjablpaa.WalkC Go.Proofs.Ytmpjoigmjablpaa.WalkD

set_option maxHeartbeats 1000000 in
theorem specLength_any (y m : Int) (hy : 2000 ≤ y ∧ y ≤ 2100) (hm : 1 ≤ m ∧ m ≤ 12) (w : World) : Calls Try.prog 80 #[.int .i64 y, .int .i64 m] w fun e w' => e = .returned (.int .i64 (monL y m)) ∧ Below w.heap.size w w' := by
  obtain ⟨y1, y2⟩ := hy
  by_cases h2 : m = 2
  · subst h2
    by_cases h4 : y % 4 = 0
    · have hz : (y % 4 == 0) = true := by simpa using h4
      have HE := Lib.hid (monL_2_29 h4)
      clear h4
      go_enter Try.func80, Try.ntmps80
      go_wp2
      go_ret
      exact ⟨ret_int HE.out.symm, (Below.refl _ _).alloc (Nat.le_refl _) _⟩
    · have hz : (y % 4 == 0) = false := by simpa using h4
      have HE := Lib.hid (monL_2_28 h4)
      clear h4
      go_enter Try.func80, Try.ntmps80
      go_wp2
      go_ret
      exact ⟨ret_int HE.out.symm, (Below.refl _ _).alloc (Nat.le_refl _) _⟩
  · rcases twelve hm.1 hm.2 with rfl | rfl | rfl | rfl | rfl | rfl | rfl | rfl | rfl | rfl | rfl | rfl
    all_goals first
      | exact absurd rfl h2
      | (clear h2 hm
         go_enter Try.func80, Try.ntmps80
         go_wp2
         go_ret
         exact ⟨ret_int (by simp [monL]), (Below.refl _ _).alloc (Nat.le_refl _) _⟩)

/-! ### the day of a date -/
def dateB (y m d : Int) : Bool := inB y 2000 2099 && (inB m 1 12 && inB d 1 (monL y m))
theorem dateB_y {y m d : Int} (h : inB y 2000 2099 = false) : dateB y m d = false := by simp [dateB, h]
theorem dateB_m {y m d : Int} (h : inB m 1 12 = false) : dateB y m d = false := by simp [dateB, h]
theorem dateB_d {y m d : Int} (h : inB d 1 (monL y m) = false) : dateB y m d = false := by simp [dateB, h]
theorem dateB_ok {y m d : Int} (h : inB y 2000 2099 = true) (k : inB m 1 12 = true) (l : inB d 1 (monL y m) = true) : dateB y m d = true := by simp [dateB, h, k, l]
theorem implDayNumber_any (y m d : Int) (w : World) : Calls Try.prog 36 #[.int .i64 y, .int .i64 m, .int .i64 d] w fun e w' => e = .returned (.tuple #[.int .i64 (valI (dateB y m d) (dayN y m d)), .int .i64 (codeI (dateB y m d))]) ∧ w = w' := by
  cases h : inB y 2000 2099
  · rw [dateB_y h]
    go_enter Try.func36, Try.ntmps36
    go_wp2_with (go_at_call 47; refine (within_any _ _ _ _).mono ?_; rintro e w' ⟨rfl, rfl⟩)
    go_ret2
    exact ⟨rfl, rfl⟩
  cases k : inB m 1 12
  · rw [dateB_m k]
    go_enter Try.func36, Try.ntmps36
    go_wp2_with (go_at_call 47; refine (within_any _ _ _ _).mono ?_; rintro e w' ⟨rfl, rfl⟩)
    go_ret2
    exact ⟨rfl, rfl⟩
  obtain ⟨y1, y2⟩ := inB_iff.1 h
  obtain ⟨m1, m2⟩ := inB_iff.1 k
  cases l : inB d 1 (monL y m)
  · rw [dateB_d l]
    go_enter Try.func36, Try.ntmps36
    go_wp2_with (first | (go_at_call 47; refine (within_any _ _ _ _).mono ?_; rintro e w' ⟨rfl, rfl⟩) | (go_at_call 61; refine (monthLength_any _ _ (by omega) (by omega) _).mono ?_; rintro e w' ⟨rfl, rfl⟩))
    go_ret2
    exact ⟨rfl, rfl⟩
  · rw [dateB_ok h k l]
    obtain ⟨l1, l2⟩ := inB_iff.1 l
    have hl := monL_bd y m
    obtain ⟨hl1, hl2⟩ := hl
    go_enter Try.func36, Try.ntmps36
    go_wp2_with (first | (go_at_call 47; refine (within_any _ _ _ _).mono ?_; rintro e w' ⟨rfl, rfl⟩) | (go_at_call 61; refine (monthLength_any _ _ (by omega) (by omega) _).mono ?_; rintro e w' ⟨rfl, rfl⟩) | (go_at_call 62; refine (dayOf_any _ _ _ (by omega) (by omega) (by omega) _).mono ?_; rintro e w' ⟨rfl, rfl⟩))
    go_ret2
    exact ⟨rfl, rfl⟩

theorem ret_num {a b : Int} (h : a = b) : Ending.returned (.tuple #[.int .i64 a, .bool true]) = .returned (.tuple #[.int .i64 b, .bool true]) := by rw [h]
theorem dby_leap {j : Int} (h : j % 4 = 0) : dby (j + 1) = dby j + 365 + 1 := by rw [dby_succ]; simp [lp, h]
theorem dby_flat {j : Int} (h : j % 4 ≠ 0) : dby (j + 1) = dby j + 365 := by rw [dby_succ]; simp [lp, h]
theorem specNumber_any (y m d : Int) (w : World) : Calls Try.prog 60 #[.int .i64 y, .int .i64 m, .int .i64 d] w fun e w' => e = .returned (.tuple #[.int .i64 (valI (dateB y m d) (dayN y m d)), .bool (dateB y m d)]) ∧ Below w.heap.size w w' := by
  cases h : inB y 2000 2099
  · rw [dateB_y h]
    go_enter Try.func60, Try.ntmps60
    go_wp2_with (go_at_call 43; refine (in_any _ _ _ _).mono ?_; rintro e w' ⟨rfl, rfl⟩)
    go_ret2
    exact ⟨rfl, Below.refl _ _⟩
  cases k : inB m 1 12
  · rw [dateB_m k]
    go_enter Try.func60, Try.ntmps60
    go_wp2_with (go_at_call 43; refine (in_any _ _ _ _).mono ?_; rintro e w' ⟨rfl, rfl⟩)
    go_ret2
    exact ⟨rfl, Below.refl _ _⟩
  obtain ⟨y1, y2⟩ := inB_iff.1 h
  obtain ⟨m1, m2⟩ := inB_iff.1 k
  cases l : inB d 1 (monL y m)
  · rw [dateB_d l]
    go_enter Try.func60, Try.ntmps60
    go_wp2_with (first | (go_at_call 43; refine (in_any _ _ _ _).mono ?_; rintro e w' ⟨rfl, rfl⟩) | (go_at_call 80; refine (specLength_any _ _ (by omega) (by omega) _).mono ?_; rintro e w1 ⟨rfl, hb⟩))
    go_ret2
    exact ⟨rfl, hb⟩
  · rw [dateB_ok h k l]
    obtain ⟨l1, l2⟩ := inB_iff.1 l
    have hl := monL_bd y m
    obtain ⟨hl1, hl2⟩ := hl
    go_enter Try.func60, Try.ntmps60
    go_wp2_with (first | (go_at_call 43; refine (in_any _ _ _ _).mono ?_; rintro e w' ⟨rfl, rfl⟩) | (go_at_call 80; refine (specLength_any _ _ (by omega) (by omega) _).mono ?_; rintro e w1 ⟨rfl, hb⟩))
    go_loop [8, 9] (fun s t => ∃ j : Int, 2000 ≤ j ∧ j ≤ y ∧ s = .int .i64 (dby j + d - 1) ∧ t = .int .i64 j) (fun _ t => (y - intOf t).toNat)
    case atStart => exact ⟨2000, by omega, by omega, by rw [dby_2000]; go_num, rfl⟩
    case round =>
      obtain ⟨j, j1, j2, rfl, rfl⟩ := hrel
      have hdb := dby_bd j (by omega) (by omega)
      obtain ⟨db1, db2⟩ := hdb
      by_cases hlt : j < y
      · by_cases h4 : j % 4 = 0
        · have hz : (j % 4 == 0) = true := by simpa using h4
          have HE := Lib.hid (dby_leap h4)
          clear h4
          go_wp2
          go_round
          case rel => exact ⟨j + 1, by omega, by omega, by rw [HE.out]; go_num, rfl⟩
          case measure => simp [intOf]; omega
        · have hz : (j % 4 == 0) = false := by simpa using h4
          have HE := Lib.hid (dby_flat h4)
          clear h4
          go_wp2
          go_round
          case rel => exact ⟨j + 1, by omega, by omega, by rw [HE.out]; go_num, rfl⟩
          case measure => simp [intOf]; omega
      · obtain rfl : j = y := by omega
        clear hlt
        go_wp2
        go_loopw [8, 10] (fun s t wr => ∃ i : Int, 1 ≤ i ∧ i ≤ m ∧ s = .int .i64 (dby j + cum j i + d - 1) ∧ t = .int .i64 i ∧ Below w.heap.size w wr) (fun _ t _ => (m - intOf t).toNat)
        case atStart => exact ⟨1, by omega, by omega, by rw [cum_one]; go_num, rfl, hb⟩
        case round =>
          obtain ⟨i, i1, i2, rfl, rfl, hbr⟩ := hrel
          have hc := cum_bd j i
          have hm2 := monL_bd j i
          obtain ⟨c1, c2⟩ := hc
          obtain ⟨n1, n2⟩ := hm2
          by_cases hlt : i < m
          · have HS := Lib.hid (cum_succ j i (by omega) (by omega))
            go_wp2_with (go_at_call 80; refine (specLength_any _ _ (by omega) (by omega) _).mono ?_; rintro e w2 ⟨rfl, hb2⟩)
            go_roundw
            case rel => exact ⟨i + 1, by omega, by omega, by rw [HS.out]; go_num, rfl, hbr.trans (hb2.mono hbr.size)⟩
            case measure => simp [intOf]; omega
          · go_wp2
            go_ret2
            exact ⟨ret_num (by have : i = m := by omega
                               subst this; rfl), hbr⟩
theorem specDayNumber_any (y m d : Int) (w : World) : Calls Try.prog 35 #[.int .i64 y, .int .i64 m, .int .i64 d] w fun e w' => e = .returned (.tuple #[.int .i64 (valI (dateB y m d) (dayN y m d)), .int .i64 (codeI (dateB y m d))]) ∧ Below w.heap.size w w' := by
  cases h : dateB y m d
  · go_enter Try.func35, Try.ntmps35
    go_wp2_with (go_at_call 60; refine (specNumber_any _ _ _ _).mono ?_; rintro e w1 ⟨rfl, hb⟩)
    go_ret2
    exact ⟨rfl, hb⟩
  · go_enter Try.func35, Try.ntmps35
    go_wp2_with (go_at_call 60; refine (specNumber_any _ _ _ _).mono ?_; rintro e w1 ⟨rfl, hb⟩)
    go_ret2
    exact ⟨rfl, hb⟩

/-! ### the date of a day -/
theorem date_exists (k : Nat) : (k : Int) ≤ 36524 → ∃ y m d, IsDate k y m d := by
  induction k with
  | zero => intro _; exact ⟨2000, 1, 1, by omega, by omega, by omega, by omega, by omega, by decide, by decide⟩
  | succ k ih =>
    intro hk
    obtain ⟨y, m, d, h1, h2, h3, h4, h5, h6, h7⟩ := ih (by omega)
    unfold dayN at h7
    by_cases c1 : d < monL y m
    · exact ⟨y, m, d + 1, h1, h2, h3, h4, by omega, by omega, by unfold dayN; omega⟩
    by_cases c2 : m < 12
    · have := cum_succ y m h3 h4
      have := monL_bd y (m + 1)
      exact ⟨y, m + 1, 1, h1, h2, by omega, by omega, by omega, by omega, by unfold dayN; omega⟩
    · have hm : m = 12 := by omega
      subst hm
      have e1 := cum_succ y 12 (by omega) (by omega)
      have e2 := cum_13 y
      have e3 := dby_succ y
      have e4 : cum y (12 + 1) = cum y 13 := rfl
      have hy : y < 2099 := by
        apply Int.not_le.1
        intro h
        have : y = 2099 := by omega
        subst this
        have e5 : dby (2099 + 1) = 36525 := dby_2100
        omega
      have e6 := monL_bd (y + 1) 1
      exact ⟨y + 1, 1, 1, by omega, by omega, by omega, by omega, by omega, by omega, by unfold dayN; rw [cum_one]; omega⟩

theorem dayN_step {y m d : Int} (h1 : 1 ≤ m) (h2 : m < 12) : dayN y (m + 1) d = dayN y m d + monL y m := by
  have := cum_succ y m h1 (by omega); unfold dayN; omega
theorem dayN_year {y d : Int} : dayN (y + 1) 1 d = dayN y 12 d + monL y 12 := by
  have e1 := cum_succ y 12 (by omega) (by omega)
  have e2 := cum_13 y
  have e3 := dby_succ y
  have e4 : cum y (12 + 1) = cum y 13 := rfl
  unfold dayN; rw [cum_one]; omega
theorem dayN_late {y m d : Int} (hy : 2100 ≤ y) (hd : 1 ≤ d) : 36525 ≤ dayN y m d := by
  have h1 := dby_mono 2100 y hy
  have h2 := cum_bd y m
  have h3 := dby_2100
  unfold dayN; omega
theorem specDate_any (day y m d : Int) (hd : 0 ≤ day ∧ day ≤ 36524) (h : IsDate day y m d) (w : World) :
    Calls Try.prog 65 #[.int .i64 day] w fun e w' => e = .returned (.tuple #[.int .i64 y, .int .i64 m, .int .i64 d]) ∧ Below w.heap.size w w' := by
  obtain ⟨d1, d2⟩ := hd
  have HD := Lib.hid h
  clear h
  go_enter Try.func65, Try.ntmps65
  go_wp2
  go_loopw [0, 5, 6] (fun r a b wr => ∃ p q k : Int, r = .int .i64 p ∧ a = .int .i64 q ∧ b = .int .i64 k ∧ 0 ≤ p ∧ p ≤ 36524 ∧ 2000 ≤ q ∧ q ≤ 2099 ∧ 1 ≤ k ∧ k ≤ 12 ∧ Hid (dayN q k (p + 1) = day) ∧ Below w.heap.size w wr) (fun r _ _ _ => (intOf r).toNat)
  case atStart => exact ⟨day, 2000, 1, rfl, rfl, rfl, by omega, by omega, by omega, by omega, by omega, by omega, by show dayN 2000 1 (day + 1) = day; unfold dayN; rw [dby_2000, cum_one]; omega, Below.refl _ _⟩
  case round =>
    obtain ⟨p, q, k, rfl, rfl, rfl, p1, p2, q1, q2, k1, k2, hq, hbr⟩ := hrel
    have hm := monL_bd q k
    obtain ⟨n1, n2⟩ := hm
    by_cases hlt : monL q k ≤ p
    · by_cases h12 : k < 12
      · have hnext : dayN q (k + 1) (p - monL q k + 1) = day := by rw [dayN_step k1 h12]; have := hq.out; unfold dayN at *; omega
        have HN := Lib.hid hnext
        clear hnext
        go_wp2_with fail
        refine (specLength_any _ _ (by omega) (by omega) _).mono ?_
        rintro e w2 ⟨rfl, hb2⟩
        go_wp2_with fail
        refine (specLength_any _ _ (by omega) (by omega) _).mono ?_
        rintro e w3 ⟨rfl, hb3⟩
        go_wp2
        go_roundw
        case rel => exact ⟨_, _, _, rfl, rfl, rfl, by omega, by omega, by omega, by omega, by omega, by omega, HN, (hbr.trans (hb2.mono hbr.size)).trans (hb3.mono (Nat.le_trans hbr.size hb2.size))⟩
        case measure => simp [intOf]; omega
      · obtain rfl : k = 12 := by omega
        have hnext : dayN (q + 1) 1 (p - monL q 12 + 1) = day := by rw [dayN_year]; have := hq.out; unfold dayN at *; omega
        have hq9 : q + 1 ≤ 2099 := by
          apply Int.not_lt.1
          intro h
          have := dayN_late (y := q + 1) (m := 1) (d := p - monL q 12 + 1) (by omega) (by omega)
          omega
        have HN := Lib.hid hnext
        clear hnext
        go_wp2_with fail
        refine (specLength_any _ _ (by omega) (by omega) _).mono ?_
        rintro e w2 ⟨rfl, hb2⟩
        go_wp2_with fail
        refine (specLength_any _ _ (by omega) (by omega) _).mono ?_
        rintro e w3 ⟨rfl, hb3⟩
        go_wp2
        go_roundw
        case rel => exact ⟨_, _, _, rfl, rfl, rfl, by omega, by omega, by omega, by omega, by omega, by omega, HN, (hbr.trans (hb2.mono hbr.size)).trans (hb3.mono (Nat.le_trans hbr.size hb2.size))⟩
        case measure => simp [intOf]; omega
    · have hdate : IsDate day q k (p + 1) := ⟨q1, q2, k1, k2, by omega, by omega, hq.out⟩
      have HT := Lib.hid hdate
      clear hdate
      go_wp2_with fail
      refine (specLength_any _ _ (by omega) (by omega) _).mono ?_
      rintro e w2 ⟨rfl, hb2⟩
      go_wp2
      go_ret3
      exact ⟨ret_three HT.out HD.out, hbr.trans (hb2.mono hbr.size)⟩

def dateV (c : Bool) (y m d : Int) : Value := .tuple #[.int .i64 (valI c y), .int .i64 (valI c m), .int .i64 (valI c d), .int .i64 (codeI c)]
theorem results_tmp4 {fn : Func} {t u v x : Tmp} (h : fn.results = #[.tmp t, .tmp u, .tmp v, .tmp x]) (tmps : Array Value) (P : Program) (w : World) :
    (results fn tmps).run P w = .ok (.tuple #[tmps.getD t undef, tmps.getD u undef, tmps.getD v undef, tmps.getD x undef]) w := by simp [results, h]
theorem implDateOf_any (day y m d : Int) (h : inB day 0 36524 = true → IsDate day y m d) (w : World) :
    Calls Try.prog 40 #[.int .i64 day] w fun e w' => e = .returned (dateV (inB day 0 36524) y m d) ∧ w = w' := by
  cases k : inB day 0 36524
  · clear h
    go_enter Try.func40, Try.ntmps40
    go_wp2_with (go_at_call 51; refine (isDay_any _ _).mono ?_; rintro e w' ⟨rfl, rfl⟩)
    refine bodyPost_ret (results_tmp4 rfl _ _ _) rfl ?_
    exact ⟨rfl, rfl⟩
  · obtain ⟨k1, k2⟩ := inB_iff.1 k
    have HC := Lib.hid (fun w => dateOf_any day y m d ⟨k1, k2⟩ (h k) w)
    clear h
    go_enter Try.func40, Try.ntmps40
    go_wp2_with (first | (go_at_call 51; refine (isDay_any _ _).mono ?_; rintro e w' ⟨rfl, rfl⟩) | (go_at_call 66; refine (HC.out _).mono ?_; rintro e w' ⟨rfl, rfl⟩))
    refine bodyPost_ret (results_tmp4 rfl _ _ _) rfl ?_
    exact ⟨rfl, rfl⟩
theorem specDateOf_any (day y m d : Int) (h : inB day 0 36524 = true → IsDate day y m d) (w : World) :
    Calls Try.prog 39 #[.int .i64 day] w fun e w' => e = .returned (dateV (inB day 0 36524) y m d) ∧ Below w.heap.size w w' := by
  cases k : inB day 0 36524
  · clear h
    go_enter Try.func39, Try.ntmps39
    go_wp2_with (go_at_call 49; refine (day_any _ _).mono ?_; rintro e w' ⟨rfl, rfl⟩)
    refine bodyPost_ret (results_tmp4 rfl _ _ _) rfl ?_
    exact ⟨rfl, Below.refl _ _⟩
  · obtain ⟨k1, k2⟩ := inB_iff.1 k
    have HC := Lib.hid (fun w => specDate_any day y m d ⟨k1, k2⟩ (h k) w)
    clear h
    go_enter Try.func39, Try.ntmps39
    go_wp2_with (first | (go_at_call 49; refine (day_any _ _).mono ?_; rintro e w' ⟨rfl, rfl⟩) | (go_at_call 65; refine (HC.out _).mono ?_; rintro e w1 ⟨rfl, hb⟩))
    refine bodyPost_ret (results_tmp4 rfl _ _ _) rfl ?_
    exact ⟨rfl, hb⟩
end Go.Proofs.Ytmpjoigmjablpaa.WalkE

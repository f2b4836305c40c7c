/- The walks of the reference's calendar, and of both functions on dates. -/
import Derived.Test.YtgjbpjpcihifnaaDoorWalkD
namespace Go.Proofs.YtgjbpjpcihifnaaDoor.WalkE
open Go.RowKit Go.Proofs.YtgjbpjpcihifnaaDoor.Plain Go.Proofs.YtgjbpjpcihifnaaDoor.WalkA Go.Proofs.YtgjbpjpcihifnaaDoor.WalkB Go.Proofs.YtgjbpjpcihifnaaDoor.WalkC Go.Proofs.YtgjbpjpcihifnaaDoor.WalkD

set_option maxHeartbeats 1000000 in
theorem specLength_any (y m : Int) (hy : 2000 ≤ y ∧ y ≤ 2100) (hm : 1 ≤ m ∧ m ≤ 12) (w : World) : Calls Tryd.prog 81 #[.int .i64 y, .int .i64 m] w fun e w' => e = .returned (.int .i64 (monL y m)) ∧ Below w.heap.size w w' := by
  obtain ⟨y1, y2⟩ := hy
  by_cases h2 : m = 2
  · subst h2
    by_cases h4 : y % 4 = 0
    · have hz : (y % 4 == 0) = true := by simpa using h4
      have HE := Lib.hid (monL_2_29 h4)
      clear h4
      go_enter Tryd.func81, Tryd.ntmps81
      go_wp2
      go_ret
      exact ⟨ret_int HE.out.symm, (Below.refl _ _).alloc (Nat.le_refl _) _⟩
    · have hz : (y % 4 == 0) = false := by simpa using h4
      have HE := Lib.hid (monL_2_28 h4)
      clear h4
      go_enter Tryd.func81, Tryd.ntmps81
      go_wp2
      go_ret
      exact ⟨ret_int HE.out.symm, (Below.refl _ _).alloc (Nat.le_refl _) _⟩
  · rcases twelve hm.1 hm.2 with rfl | rfl | rfl | rfl | rfl | rfl | rfl | rfl | rfl | rfl | rfl | rfl
    all_goals first
      | exact absurd rfl h2
      | (clear h2 hm
         go_enter Tryd.func81, Tryd.ntmps81
         go_wp2
         go_ret
         exact ⟨ret_int (by simp [monL]), (Below.refl _ _).alloc (Nat.le_refl _) _⟩)

/-! ### the day of a date -/
def dateB (y m d : Int) : Bool := inB y 2000 2099 && (inB m 1 12 && inB d 1 (monL y m))
theorem dateB_y {y m d : Int} (h : inB y 2000 2099 = false) : dateB y m d = false := by simp [dateB, h]
theorem dateB_m {y m d : Int} (h : inB m 1 12 = false) : dateB y m d = false := by simp [dateB, h]
theorem dateB_d {y m d : Int} (h : inB d 1 (monL y m) = false) : dateB y m d = false := by simp [dateB, h]
theorem dateB_ok {y m d : Int} (h : inB y 2000 2099 = true) (k : inB m 1 12 = true) (l : inB d 1 (monL y m) = true) : dateB y m d = true := by simp [dateB, h, k, l]
theorem ret_num {a b : Int} (h : a = b) : Ending.returned (.tuple #[.int .i64 a, .bool true]) = .returned (.tuple #[.int .i64 b, .bool true]) := by rw [h]
theorem dby_leap {j : Int} (h : j % 4 = 0) : dby (j + 1) = dby j + 365 + 1 := by rw [dby_succ]; simp [lp, h]
theorem dby_flat {j : Int} (h : j % 4 ≠ 0) : dby (j + 1) = dby j + 365 := by rw [dby_succ]; simp [lp, h]
theorem date_exists (k : Nat) : (k : Int) ≤ 36524 → ∃ y m d, IsDate k y m d := by
  induction k with
  | zero => intro _; exact ⟨2000, 1, 1, by omega, by omega, by omega, by omega, by omega, by decide, by decide⟩
  | succ k ih =>
    intro hk
    obtain ⟨y, m, d, h1, h2, h3, h4, h5, h6, h7⟩ := ih (by omega)
    unfold dayN at h7
    by_cases c1 : d < monL y m
    · exact ⟨y, m, d + 1, h1, h2, h3, h4, by omega, by omega, by unfold dayN; omega⟩
    by_cases c2 : m < 12
    · have := cum_succ y m h3 h4
      have := monL_bd y (m + 1)
      exact ⟨y, m + 1, 1, h1, h2, by omega, by omega, by omega, by omega, by unfold dayN; omega⟩
    · have hm : m = 12 := by omega
      subst hm
      have e1 := cum_succ y 12 (by omega) (by omega)
      have e2 := cum_13 y
      have e3 := dby_succ y
      have e4 : cum y (12 + 1) = cum y 13 := rfl
      have hy : y < 2099 := by
        apply Int.not_le.1
        intro h
        have : y = 2099 := by omega
        subst this
        have e5 : dby (2099 + 1) = 36525 := dby_2100
        omega
      have e6 := monL_bd (y + 1) 1
      exact ⟨y + 1, 1, 1, by omega, by omega, by omega, by omega, by omega, by omega, by unfold dayN; rw [cum_one]; omega⟩

theorem dayN_step {y m d : Int} (h1 : 1 ≤ m) (h2 : m < 12) : dayN y (m + 1) d = dayN y m d + monL y m := by
  have := cum_succ y m h1 (by omega); unfold dayN; omega
theorem dayN_year {y d : Int} : dayN (y + 1) 1 d = dayN y 12 d + monL y 12 := by
  have e1 := cum_succ y 12 (by omega) (by omega)
  have e2 := cum_13 y
  have e3 := dby_succ y
  have e4 : cum y (12 + 1) = cum y 13 := rfl
  unfold dayN; rw [cum_one]; omega
theorem dayN_late {y m d : Int} (hy : 2100 ≤ y) (hd : 1 ≤ d) : 36525 ≤ dayN y m d := by
  have h1 := dby_mono 2100 y hy
  have h2 := cum_bd y m
  have h3 := dby_2100
  unfold dayN; omega
theorem specDate_any (day y m d : Int) (hd : 0 ≤ day ∧ day ≤ 36524) (h : IsDate day y m d) (w : World) :
    Calls Tryd.prog 67 #[.int .i64 day] w fun e w' => e = .returned (.tuple #[.int .i64 y, .int .i64 m, .int .i64 d]) ∧ Below w.heap.size w w' := by
  obtain ⟨d1, d2⟩ := hd
  have HD := Lib.hid h
  clear h
  go_enter Tryd.func67, Tryd.ntmps67
  go_wp2
  go_loopw [0, 5, 6] (fun r a b wr => ∃ p q k : Int, r = .int .i64 p ∧ a = .int .i64 q ∧ b = .int .i64 k ∧ 0 ≤ p ∧ p ≤ 36524 ∧ 2000 ≤ q ∧ q ≤ 2099 ∧ 1 ≤ k ∧ k ≤ 12 ∧ Hid (dayN q k (p + 1) = day) ∧ Below w.heap.size w wr) (fun r _ _ _ => (intOf r).toNat)
  case atStart => exact ⟨day, 2000, 1, rfl, rfl, rfl, by omega, by omega, by omega, by omega, by omega, by omega, by show dayN 2000 1 (day + 1) = day; unfold dayN; rw [dby_2000, cum_one]; omega, Below.refl _ _⟩
  case round =>
    obtain ⟨p, q, k, rfl, rfl, rfl, p1, p2, q1, q2, k1, k2, hq, hbr⟩ := hrel
    have hm := monL_bd q k
    obtain ⟨n1, n2⟩ := hm
    by_cases hlt : monL q k ≤ p
    · by_cases h12 : k < 12
      · have hnext : dayN q (k + 1) (p - monL q k + 1) = day := by rw [dayN_step k1 h12]; have := hq.out; unfold dayN at *; omega
        have HN := Lib.hid hnext
        clear hnext
        go_wp2_with fail
        refine (specLength_any _ _ (by omega) (by omega) _).mono ?_
        rintro e w2 ⟨rfl, hb2⟩
        go_wp2_with fail
        refine (specLength_any _ _ (by omega) (by omega) _).mono ?_
        rintro e w3 ⟨rfl, hb3⟩
        go_wp2
        go_roundw
        case rel => exact ⟨_, _, _, rfl, rfl, rfl, by omega, by omega, by omega, by omega, by omega, by omega, HN, (hbr.trans (hb2.mono hbr.size)).trans (hb3.mono (Nat.le_trans hbr.size hb2.size))⟩
        case measure => simp [intOf]; omega
      · obtain rfl : k = 12 := by omega
        have hnext : dayN (q + 1) 1 (p - monL q 12 + 1) = day := by rw [dayN_year]; have := hq.out; unfold dayN at *; omega
        have hq9 : q + 1 ≤ 2099 := by
          apply Int.not_lt.1
          intro h
          have := dayN_late (y := q + 1) (m := 1) (d := p - monL q 12 + 1) (by omega) (by omega)
          omega
        have HN := Lib.hid hnext
        clear hnext
        go_wp2_with fail
        refine (specLength_any _ _ (by omega) (by omega) _).mono ?_
        rintro e w2 ⟨rfl, hb2⟩
        go_wp2_with fail
        refine (specLength_any _ _ (by omega) (by omega) _).mono ?_
        rintro e w3 ⟨rfl, hb3⟩
        go_wp2
        go_roundw
        case rel => exact ⟨_, _, _, rfl, rfl, rfl, by omega, by omega, by omega, by omega, by omega, by omega, HN, (hbr.trans (hb2.mono hbr.size)).trans (hb3.mono (Nat.le_trans hbr.size hb2.size))⟩
        case measure => simp [intOf]; omega
    · have hdate : IsDate day q k (p + 1) := ⟨q1, q2, k1, k2, by omega, by omega, hq.out⟩
      have HT := Lib.hid hdate
      clear hdate
      go_wp2_with fail
      refine (specLength_any _ _ (by omega) (by omega) _).mono ?_
      rintro e w2 ⟨rfl, hb2⟩
      go_wp2
      go_ret3
      exact ⟨ret_three HT.out HD.out, hbr.trans (hb2.mono hbr.size)⟩

def dateV (c : Bool) (y m d : Int) : Value := .tuple #[.int .i64 (valI c y), .int .i64 (valI c m), .int .i64 (valI c d), .int .i64 (codeI c)]
theorem results_tmp4 {fn : Func} {t u v x : Tmp} (h : fn.results = #[.tmp t, .tmp u, .tmp v, .tmp x]) (tmps : Array Value) (P : Program) (w : World) :
    (results fn tmps).run P w = .ok (.tuple #[tmps.getD t undef, tmps.getD u undef, tmps.getD v undef, tmps.getD x undef]) w := by simp [results, h]
end Go.Proofs.YtgjbpjpcihifnaaDoor.WalkE

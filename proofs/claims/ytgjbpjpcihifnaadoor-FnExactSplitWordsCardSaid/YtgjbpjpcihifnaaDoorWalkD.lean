/- The walks of the calendar: lengths of months, days of dates, dates of days. -/
import Derived.Test.YtgjbpjpcihifnaaDoorWalkC
namespace Go.Proofs.YtgjbpjpcihifnaaDoor.WalkD
open Go.RowKit Go.Proofs.YtgjbpjpcihifnaaDoor.Plain Go.Proofs.YtgjbpjpcihifnaaDoor.WalkA Go.Proofs.YtgjbpjpcihifnaaDoor.WalkB Go.Proofs.YtgjbpjpcihifnaaDoor.WalkC

theorem monL_2_29 {y : Int} (h : y % 4 = 0) : monL y 2 = 29 := by simp [monL, h]
theorem monL_2_28 {y : Int} (h : y % 4 ≠ 0) : monL y 2 = 28 := by simp [monL, h]
theorem twelve {m : Int} (h1 : 1 ≤ m) (h2 : m ≤ 12) : m = 1 ∨ m = 2 ∨ m = 3 ∨ m = 4 ∨ m = 5 ∨ m = 6 ∨ m = 7 ∨ m = 8 ∨ m = 9 ∨ m = 10 ∨ m = 11 ∨ m = 12 := by omega

set_option maxHeartbeats 1000000 in
theorem monthLength_any (y m : Int) (hy : 2000 ≤ y ∧ y ≤ 2100) (hm : 1 ≤ m ∧ m ≤ 12) (w : World) : Calls Tryd.prog 82 #[.int .i64 y, .int .i64 m] w fun e w' => e = .returned (.int .i64 (monL y m)) ∧ w = w' := by
  obtain ⟨y1, y2⟩ := hy
  by_cases h2 : m = 2
  · subst h2
    by_cases h4 : y % 4 = 0
    · have hz : (y % 4 == 0) = true := by simpa using h4
      have HE := Lib.hid (monL_2_29 h4)
      clear h4
      go_enter Tryd.func82, Tryd.ntmps82
      go_wp2
      go_ret
      exact ⟨ret_int HE.out.symm, rfl⟩
    · have hz : (y % 4 == 0) = false := by simpa using h4
      have HE := Lib.hid (monL_2_28 h4)
      clear h4
      go_enter Tryd.func82, Tryd.ntmps82
      go_wp2
      go_ret
      exact ⟨ret_int HE.out.symm, rfl⟩
  · rcases twelve hm.1 hm.2 with rfl | rfl | rfl | rfl | rfl | rfl | rfl | rfl | rfl | rfl | rfl | rfl
    all_goals first
      | exact absurd rfl h2
      | (clear h2 hm
         go_enter Tryd.func82, Tryd.ntmps82
         go_wp2
         go_ret
         exact ⟨ret_int (by simp [monL]), rfl⟩)

theorem dayN_start (y : Int) : dayN y 1 1 = dby y := by unfold dayN; rw [cum_one]; omega
theorem dayOf_any (y m d : Int) (hy : 2000 ≤ y ∧ y ≤ 2100) (hm : 1 ≤ m ∧ m ≤ 12) (hd : 0 ≤ d ∧ d ≤ 1000) (w : World) :
    Calls Tryd.prog 68 #[.int .i64 y, .int .i64 m, .int .i64 d] w fun e w' => e = .returned (.int .i64 (dayN y m d)) ∧ w = w' := by
  obtain ⟨y1, y2⟩ := hy
  obtain ⟨m1, m2⟩ := hm
  obtain ⟨d1, d2⟩ := hd
  have hb := dby_bd y y1 y2
  obtain ⟨b1, b2⟩ := hb
  go_enter Tryd.func68, Tryd.ntmps68
  go_wp2
  go_loop [7, 8] (fun s k => ∃ j : Int, 1 ≤ j ∧ j ≤ m ∧ s = .int .i64 (dby y + cum y j + d - 1) ∧ k = .int .i64 j) (fun _ k => (m - intOf k).toNat)
  case atStart => exact ⟨1, by omega, by omega, by rw [cum_one]; unfold dby; go_num, rfl⟩
  case round =>
    obtain ⟨j, j1, j2, rfl, rfl⟩ := hrel
    have hc := cum_bd y j
    have hl := monL_bd y j
    obtain ⟨c1, c2⟩ := hc
    obtain ⟨l1, l2⟩ := hl
    by_cases hlt : j < m
    · have HS := Lib.hid (cum_succ y j (by omega) (by omega))
      go_wp2_with (go_at_call 82; refine (monthLength_any _ _ (by omega) (by omega) _).mono ?_; rintro e w' ⟨rfl, rfl⟩)
      go_round
      case rel => exact ⟨j + 1, by omega, by omega, by rw [HS.out]; go_num, rfl⟩
      case measure => simp [intOf]; omega
    · go_wp2
      go_ret
      exact ⟨ret_int (by have : j = m := by omega
                         subst this; rfl), rfl⟩

theorem dayOf_one (y m : Int) (hy : 2000 ≤ y ∧ y ≤ 2100) (hm : 1 ≤ m ∧ m ≤ 12) (w : World) :
    Calls Tryd.prog 68 #[.int .i64 y, .int .i64 m, .int .i64 1] w fun e w' => e = .returned (.int .i64 (dby y + cum y m)) ∧ w = w' := by
  have h := dayOf_any y m 1 hy hm (by omega) w
  have e : dayN y m 1 = dby y + cum y m := by unfold dayN; omega
  rwa [e] at h

theorem cum_last (y m : Int) (h1 : 1 ≤ m) (h2 : m < 13) : cum y m ≤ cum y 13 - 28 := by
  have := cum_succ y m h1 (by omega)
  have := cum_mono y (m + 1) 13 (by omega) (by omega) (by omega)
  have := monL_bd y m
  omega
theorem ret_three {day y m d y' m' d' : Int} (h : IsDate day y' m' d') (k : IsDate day y m d) :
    Ending.returned (.tuple #[.int .i64 y', .int .i64 m', .int .i64 d']) = .returned (.tuple #[.int .i64 y, .int .i64 m, .int .i64 d]) := by
  obtain ⟨rfl, rfl, rfl⟩ := h.same k
  rfl
theorem dateOf_any (day y m d : Int) (hd : 0 ≤ day ∧ day ≤ 36524) (h : IsDate day y m d) (w : World) :
    Calls Tryd.prog 57 #[.int .i64 day] w fun e w' => e = .returned (.tuple #[.int .i64 y, .int .i64 m, .int .i64 d]) ∧ w = w' := by
  obtain ⟨d1, d2⟩ := hd
  have HD := Lib.hid h
  clear h
  go_enter Tryd.func57, Tryd.ntmps57
  go_wp2
  go_loop [5] (fun s => ∃ a : Int, 2000 ≤ a ∧ a ≤ 2099 ∧ dby a ≤ day ∧ s = .int .i64 a) (fun s => (2099 - intOf s).toNat)
  case atStart => exact ⟨2000, by omega, by omega, by rw [dby_2000]; omega, rfl⟩
  case round =>
    obtain ⟨a, a1, a2, a3, rfl⟩ := hrel
    by_cases hc : a < 2099 ∧ dby (a + 1) ≤ day
    · obtain ⟨hlt, hle⟩ := hc
      have HN := fun w => dayOf_one (a + 1) 1 (by omega) (by omega) w
      rw [cum_one, Int.add_zero] at HN
      go_wp2_with (go_at_call 68; refine (HN _).mono ?_; rintro e w' ⟨rfl, rfl⟩)
      go_round
      case rel => exact ⟨a + 1, by omega, by omega, hle, rfl⟩
      case measure => simp [intOf]; omega
    · have hz : day < dby (a + 1) := by
        by_cases e : a = 2099
        · rw [e]; show _ < dby 2100; rw [dby_2100]; omega
        · omega
      have hs := dby_succ a
      have h13 := cum_13 a
      have hb := dby_bd a a1 (by omega)
      obtain ⟨b1, b2⟩ := hb
      have HS := Lib.hid hs
      have H13 := Lib.hid h13
      clear hs h13 hc
      by_cases hlt : a < 2099
      · have HN := fun w => dayOf_one (a + 1) 1 (by omega) (by omega) w
        rw [cum_one, Int.add_zero] at HN
        have HH := Lib.hid HN
        clear HN
        go_wp2_with (go_at_call 68; refine (HH.out _).mono ?_; rintro e w' ⟨rfl, rfl⟩)
        go_loop [6] (fun s => ∃ j : Int, 1 ≤ j ∧ j ≤ 12 ∧ dby a + cum a j ≤ day ∧ s = .int .i64 j) (fun s => (12 - intOf s).toNat)
        case atStart => exact ⟨1, by omega, by omega, by rw [cum_one]; omega, rfl⟩
        case round =>
          obtain ⟨j, j1, j2, j3, rfl⟩ := hrel
          have HN1 := Lib.hid (fun w => dayOf_one a j (by omega) (by omega) w)
          have hc := cum_bd a j
          obtain ⟨c1, c2⟩ := hc
          by_cases hc : j < 12 ∧ dby a + cum a (j + 1) ≤ day
          · obtain ⟨hj, hd⟩ := hc
            have HN2 := Lib.hid (fun w => dayOf_one a (j + 1) (by omega) (by omega) w)
            go_wp2_with (go_at_call 68; refine (HN2.out _).mono ?_; rintro e w' ⟨rfl, rfl⟩)
            go_round
            case rel => exact ⟨j + 1, by omega, by omega, hd, rfl⟩
            case measure => simp [intOf]; omega
          · have hf : day < dby a + cum a (j + 1) := by
              by_cases e : j = 12
              · rw [e]; show _ < dby a + cum a 13; have := HS.out; have := H13.out; omega
              · omega
            have hdate : IsDate day a j (day - (dby a + cum a j) + 1) := ⟨a1, a2, j1, j2, by omega, by have := cum_succ a j j1 j2; omega, by unfold dayN; omega⟩
            have HT := Lib.hid hdate
            clear hdate hc
            by_cases hj : j < 12
            · have HN2 := Lib.hid (fun w => dayOf_one a (j + 1) (by omega) (by omega) w)
              go_wp2_with fail
              refine (HN2.out _).mono ?_
              rintro e w' ⟨rfl, rfl⟩
              go_wp2_with fail
              refine (HN1.out _).mono ?_
              rintro e w' ⟨rfl, rfl⟩
              go_wp2
              go_ret3
              exact ⟨ret_three HT.out HD.out, rfl⟩
            · go_wp2_with fail
              refine (HN1.out _).mono ?_
              rintro e w' ⟨rfl, rfl⟩
              go_wp2
              go_ret3
              exact ⟨ret_three HT.out HD.out, rfl⟩
      · go_wp2
        go_loop [6] (fun s => ∃ j : Int, 1 ≤ j ∧ j ≤ 12 ∧ dby a + cum a j ≤ day ∧ s = .int .i64 j) (fun s => (12 - intOf s).toNat)
        case atStart => exact ⟨1, by omega, by omega, by rw [cum_one]; omega, rfl⟩
        case round =>
          obtain ⟨j, j1, j2, j3, rfl⟩ := hrel
          have HN1 := Lib.hid (fun w => dayOf_one a j (by omega) (by omega) w)
          have hc := cum_bd a j
          obtain ⟨c1, c2⟩ := hc
          by_cases hc : j < 12 ∧ dby a + cum a (j + 1) ≤ day
          · obtain ⟨hj, hd⟩ := hc
            have HN2 := Lib.hid (fun w => dayOf_one a (j + 1) (by omega) (by omega) w)
            go_wp2_with (go_at_call 68; refine (HN2.out _).mono ?_; rintro e w' ⟨rfl, rfl⟩)
            go_round
            case rel => exact ⟨j + 1, by omega, by omega, hd, rfl⟩
            case measure => simp [intOf]; omega
          · have hf : day < dby a + cum a (j + 1) := by
              by_cases e : j = 12
              · rw [e]; show _ < dby a + cum a 13; have := HS.out; have := H13.out; omega
              · omega
            have hdate : IsDate day a j (day - (dby a + cum a j) + 1) := ⟨a1, a2, j1, j2, by omega, by have := cum_succ a j j1 j2; omega, by unfold dayN; omega⟩
            have HT := Lib.hid hdate
            clear hdate hc
            by_cases hj : j < 12
            · have HN2 := Lib.hid (fun w => dayOf_one a (j + 1) (by omega) (by omega) w)
              go_wp2_with fail
              refine (HN2.out _).mono ?_
              rintro e w' ⟨rfl, rfl⟩
              go_wp2_with fail
              refine (HN1.out _).mono ?_
              rintro e w' ⟨rfl, rfl⟩
              go_wp2
              go_ret3
              exact ⟨ret_three HT.out HD.out, rfl⟩
            · go_wp2_with fail
              refine (HN1.out _).mono ?_
              rintro e w' ⟨rfl, rfl⟩
              go_wp2
              go_ret3
              exact ⟨ret_three HT.out HD.out, rfl⟩
end Go.Proofs.YtgjbpjpcihifnaaDoor.WalkD

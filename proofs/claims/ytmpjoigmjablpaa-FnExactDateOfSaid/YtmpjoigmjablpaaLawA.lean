/- The walks of the first exact laws: each calls reference and program, which return the same, and so answers true. -/
import Derived.Test.YtmpjoigmjablpaaWalkE
import Derived.OpenShut
namespace Go.Proofs.Ytmpjoigmjablpaa.LawA
open Go.RowKit Go.Proofs.Ytmpjoigmjablpaa.Plain Go.Proofs.Ytmpjoigmjablpaa.WalkA Go.Proofs.Ytmpjoigmjablpaa.WalkB Go.Proofs.Ytmpjoigmjablpaa.WalkC Go.Proofs.Ytmpjoigmjablpaa.WalkD Go.Proofs.Ytmpjoigmjablpaa.WalkE

theorem constants (w : World) : Calls Try.prog 3 #[] w fun e w' => e = .returned (.bool true) ∧ Below w.heap.size w w' := by
  go_enter Try.func3, Try.ntmps3
  go_wp2
  go_ret
  exact ⟨rfl, Below.refl _ _⟩
theorem secondsFor (a0 : Int) (_ : (Lit.int .i64 a0).wf = true) (a1 : Int) (_ : (Lit.int .i64 a1).wf = true) (w : World) :
    Calls Try.prog 5 #[.int .i64 a0, .int .i64 a1] w fun e w' => e = .returned (.bool true) ∧ Below w.heap.size w w' := by
  go_enter Try.func5, Try.ntmps5
  go_wp2_with (first | (go_at_call 19; refine (specSec_any _ _ _).mono ?_; rintro e w' ⟨rfl, rfl⟩) | (go_at_call 20; refine (implSec_any _ _ _).mono ?_; rintro e w' ⟨rfl, rfl⟩))
  go_ret
  exact ⟨rfl, Below.refl _ _⟩
theorem weekdayOf (a0 : Int) (_ : (Lit.int .i64 a0).wf = true) (w : World) :
    Calls Try.prog 6 #[.int .i64 a0] w fun e w' => e = .returned (.bool true) ∧ Below w.heap.size w w' := by
  go_enter Try.func6, Try.ntmps6
  go_wp2_with (first | (go_at_call 21; refine (specWeekdayOf_any _ _).mono ?_; rintro e w' ⟨rfl, rfl⟩) | (go_at_call 22; refine (implWeekdayOf_any _ _).mono ?_; rintro e w' ⟨rfl, rfl⟩))
  go_ret
  exact ⟨rfl, Below.refl _ _⟩
theorem rootOf (a0 : Int) (h0 : (Lit.int .i64 a0).wf = true) (w : World) :
    Calls Try.prog 7 #[.int .i64 a0] w fun e w' => e = .returned (.bool true) ∧ Below w.heap.size w w' := by
  have hb := bounds_i64 h0
  obtain ⟨r, hr⟩ := root_exists a0
  have HR := Lib.hid hr
  clear hr h0
  obtain ⟨b1, b2⟩ := hb
  have HI := Lib.hid (fun w => implRoot_any a0 r ⟨b1, b2⟩ HR.out w)
  have HS := Lib.hid (fun w => specRoot_any a0 r ⟨b1, b2⟩ HR.out w)
  go_enter Try.func7, Try.ntmps7
  go_wp2_with (first | (go_at_call 23; go_in) | (go_at_call 53; refine (HS.out _).mono ?_; rintro e w' ⟨rfl, rfl⟩) | (go_at_call 24; refine (HI.out _).mono ?_; rintro e w' ⟨rfl, rfl⟩))
  go_ret
  exact ⟨rfl, Below.refl _ _⟩
theorem workDays (a0 : Int) (_ : (Lit.int .i64 a0).wf = true) (a1 : Int) (_ : (Lit.int .i64 a1).wf = true) (w : World) :
    Calls Try.prog 9 #[.int .i64 a0, .int .i64 a1] w fun e w' => e = .returned (.bool true) ∧ Below w.heap.size w w' := by
  go_enter Try.func9, Try.ntmps9
  go_wp2_with (first | (go_at_call 27; refine (specWork_any _ _ _).mono ?_; rintro e w' ⟨rfl, rfl⟩) | (go_at_call 28; refine (implWork_any _ _ _).mono ?_; rintro e w' ⟨rfl, rfl⟩))
  go_ret
  exact ⟨rfl, Below.refl _ _⟩
theorem divRound (a0 : Int) (_ : (Lit.int .i64 a0).wf = true) (a1 : Int) (_ : (Lit.int .i64 a1).wf = true) (w : World) :
    Calls Try.prog 11 #[.int .i64 a0, .int .i64 a1] w fun e w' => e = .returned (.bool true) ∧ Below w.heap.size w w' := by
  go_enter Try.func11, Try.ntmps11
  go_wp2_with (first | (go_at_call 31; refine (specDivRound_any _ _ _).mono ?_; rintro e w' ⟨rfl, rfl⟩) | (go_at_call 32; refine (implDivRound_any _ _ _).mono ?_; rintro e w1 ⟨rfl, hd⟩))
  go_ret
  exact ⟨rfl, hd.below _⟩
theorem hourSpeed (a0 : Int) (_ : (Lit.int .i64 a0).wf = true) (w : World) :
    Calls Try.prog 12 #[.int .i64 a0] w fun e w' => e = .returned (.bool true) ∧ Below w.heap.size w w' := by
  go_enter Try.func12, Try.ntmps12
  go_wp2_with (first | (go_at_call 33; refine (specHour_any _ _).mono ?_; rintro e w' ⟨rfl, rfl⟩) | (go_at_call 34; refine (implHour_any _ _).mono ?_; rintro e w1 ⟨rfl, hd⟩))
  go_ret
  exact ⟨rfl, hd.below _⟩
theorem dayNumber (a0 : Int) (_ : (Lit.int .i64 a0).wf = true) (a1 : Int) (_ : (Lit.int .i64 a1).wf = true) (a2 : Int) (_ : (Lit.int .i64 a2).wf = true) (w : World) :
    Calls Try.prog 13 #[.int .i64 a0, .int .i64 a1, .int .i64 a2] w fun e w' => e = .returned (.bool true) ∧ Below w.heap.size w w' := by
  go_enter Try.func13, Try.ntmps13
  go_wp2_with (first | (go_at_call 35; refine (specDayNumber_any _ _ _ _).mono ?_; rintro e w1 ⟨rfl, hb⟩) | (go_at_call 36; refine (implDayNumber_any _ _ _ _).mono ?_; rintro e w' ⟨rfl, rfl⟩))
  go_ret
  exact ⟨rfl, hb⟩
theorem dateOf (a0 : Int) (_ : (Lit.int .i64 a0).wf = true) (w : World) :
    Calls Try.prog 15 #[.int .i64 a0] w fun e w' => e = .returned (.bool true) ∧ Below w.heap.size w w' := by
  have hex : ∃ y m d, inB a0 0 36524 = true → IsDate a0 y m d := by
    cases h : inB a0 0 36524
    · exact ⟨0, 0, 0, fun h => by cases h⟩
    · obtain ⟨h1, h2⟩ := inB_iff.1 h
      obtain ⟨k, rfl⟩ := Int.eq_ofNat_of_zero_le h1
      obtain ⟨y, m, d, hd⟩ := date_exists k h2
      exact ⟨y, m, d, fun _ => hd⟩
  obtain ⟨y, m, d, hd⟩ := hex
  have HI := Lib.hid (fun w => implDateOf_any a0 y m d hd w)
  have HS := Lib.hid (fun w => specDateOf_any a0 y m d hd w)
  clear hd
  unfold dateV at HI HS
  go_enter Try.func15, Try.ntmps15
  go_wp2_with (first | (go_at_call 39; refine (HS.out _).mono ?_; rintro e w1 ⟨rfl, hb⟩) | (go_at_call 40; refine (HI.out _).mono ?_; rintro e w' ⟨rfl, rfl⟩))
  go_ret
  exact ⟨rfl, hb⟩
end Go.Proofs.Ytmpjoigmjablpaa.LawA

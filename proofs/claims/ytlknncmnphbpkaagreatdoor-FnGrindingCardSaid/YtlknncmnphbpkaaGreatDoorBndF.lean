/- The walks of SpeedIn and EvenSpeed, program and reference. -/
import Derived.Test.YtlknncmnphbpkaaGreatDoorBndC
import Derived.Test.YtlknncmnphbpkaaGreatDoorBndE
namespace Go.Proofs.YtlknncmnphbpkaaGreatDoor.BndF
open Go.RowKit Go.Proofs.YtlknncmnphbpkaaGreatDoor.Plain Go.Proofs.YtlknncmnphbpkaaGreatDoor.WalkA Go.Proofs.YtlknncmnphbpkaaGreatDoor.WalkB Go.Proofs.YtlknncmnphbpkaaGreatDoor.WalkC Go.Proofs.YtlknncmnphbpkaaGreatDoor.WalkF Go.Proofs.YtlknncmnphbpkaaGreatDoor.WalkH Go.Proofs.YtlknncmnphbpkaaGreatDoor.BndA Go.Proofs.YtlknncmnphbpkaaGreatDoor.BndC Go.Proofs.YtlknncmnphbpkaaGreatDoor.BndE

theorem specSpeedIn_any (s : ByteArray) (r l c : Int) (x : Int) (hz : s.size ≤ 9223372036854775807) (w : World) :
    Calls Tryz.prog 14 #[.agg #[.string s, .int .i64 r, .int .i64 l, .int .i64 c], .int .i64 x] w fun e w' => e = .returned (.tuple #[.int .i64 (vB (bendB s r l c && inB x 0 5000) (spdT r c x - 1)), .int .i64 (codC (bendB s r l c) (inB x 0 5000))]) ∧ Below w.heap.size w w' := by
  obtain ⟨q0, q1, q2, q3, q4, q5⟩ := boxed4 w 25 (.string s) (.int .i64 r) (.int .i64 l) (.int .i64 c)
  have HV := Lib.hid (one_any w.heap.size 0 s r l c hz _ q0 q1 q2 q3)
  have HQ := Lib.hid (And.intro q1 q3)
  have HB := Lib.hid q4
  clear q0 q1 q2 q3 q4 q5
  cases hv : bendB s r l c
  · obtain ⟨e1, e2⟩ := cod_bad (b1 := false) (b2 := inB x 0 5000) rfl
    rw [hv] at HV
    rw [e1, e2, vB_no]
    clear e1 e2
    go_enter Tryz.func14, Tryz.ntmps14
    go_wp2_with (first | (go_at_call 34; refine HV.out.mono ?_; rintro e w1 ⟨rfl, rfl⟩) | (go_at_call 42; refine (most_any _ _).mono ?_; rintro e w1 ⟨rfl, rfl⟩) | (go_at_call 43; refine HD.out.mono ?_; rintro e w1 ⟨rfl, m, rfl⟩))
    go_ret2
    exact ⟨rfl, HB.out⟩
  rw [hv] at HV
  cases hx : inB x 0 5000
  · rw [show codC true false = 2 from rfl, show (true && false) = false from rfl, vB_no]
    go_enter Tryz.func14, Tryz.ntmps14
    go_wp2_with (first | (go_at_call 34; refine HV.out.mono ?_; rintro e w1 ⟨rfl, rfl⟩) | (go_at_call 42; refine (most_any _ _).mono ?_; rintro e w1 ⟨rfl, rfl⟩) | (go_at_call 43; refine HD.out.mono ?_; rintro e w1 ⟨rfl, m, rfl⟩))
    go_ret2
    exact ⟨rfl, HB.out⟩
  rw [show codC true true = 0 from rfl, show (true && true) = true from rfl, vB_yes]
  obtain ⟨_, hr, hl, hc⟩ := bendB_iff.1 hv
  have HD := Lib.hid (specIn_any w.heap.size 0 r c x ⟨by omega, by omega⟩ hc (inB_iff.1 hx).1 (w.alloc (.cells #[.string s, .int .i64 r, .int .i64 l, .int .i64 c] 25)) HQ.out.1 HQ.out.2)
  clear hr hl hc
  go_enter Tryz.func14, Tryz.ntmps14
  go_wp2_with (first | (go_at_call 34; refine HV.out.mono ?_; rintro e w1 ⟨rfl, rfl⟩) | (go_at_call 42; refine (most_any _ _).mono ?_; rintro e w1 ⟨rfl, rfl⟩) | (go_at_call 43; refine HD.out.mono ?_; rintro e w1 ⟨rfl, m, rfl⟩))
  go_ret2
  exact ⟨rfl, HB.out.trans (drew_down ⟨_, rfl⟩ _)⟩

end Go.Proofs.YtlknncmnphbpkaaGreatDoor.BndF

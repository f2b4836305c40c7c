/- The walks of SpeedIn and EvenSpeed, program and reference. -/
import Derived.Test.YtmjjobfaboljpaaBndC
import Derived.Test.YtmjjobfaboljpaaBndE
namespace Go.Proofs.Ytmjjobfaboljpaa.BndF
open Go.RowKit Go.Proofs.Ytmjjobfaboljpaa.Plain Go.Proofs.Ytmjjobfaboljpaa.WalkA Go.Proofs.Ytmjjobfaboljpaa.WalkB Go.Proofs.Ytmjjobfaboljpaa.WalkC Go.Proofs.Ytmjjobfaboljpaa.WalkF Go.Proofs.Ytmjjobfaboljpaa.WalkH Go.Proofs.Ytmjjobfaboljpaa.BndA Go.Proofs.Ytmjjobfaboljpaa.BndC Go.Proofs.Ytmjjobfaboljpaa.BndE

theorem implSpeedIn_any (s : ByteArray) (r l c : Int) (x : Int) (hz : s.size ≤ 9223372036854775807) (w : World) :
    Calls Try.prog 6 #[.agg #[.string s, .int .i64 r, .int .i64 l, .int .i64 c], .int .i64 x] w fun e w' => e = .returned (.tuple #[.int .i64 (vB (bendB s r l c && inB x 0 5000) (spdT r c x - 1)), .int .i64 (codC (bendB s r l c) (inB x 0 5000))]) ∧ Below w.heap.size w w' := by
  have HV := Lib.hid (fun W => validBend_any s r l c hz W)
  obtain ⟨q0, q1, q2, q3, q4, q5⟩ := boxed4 w 25 (.string s) (.int .i64 r) (.int .i64 l) (.int .i64 c)
  have HB := Lib.hid q4
  have hp : w.heap.size < (w.alloc (.cells #[.string s, .int .i64 r, .int .i64 l, .int .i64 c] 25)).heap.size := by omega
  clear q4 q5
  cases hv : bendB s r l c
  · obtain ⟨e1, e2⟩ := cod_bad (b1 := false) (b2 := inB x 0 5000) rfl
    rw [hv] at HV
    rw [e1, e2, vB_no]
    clear e1 e2
    go_enter Try.func6, Try.ntmps6
    go_wp2_with fail
    generalize w.alloc (.cells #[.string s, .int .i64 r, .int .i64 l, .int .i64 c] 25) = W0 at *
    have HB2 : Hid (∀ W, Below W0.heap.size W0 W → Below w.heap.size w W) := fun W hW => HB.out.trans (hW.mono (by omega))
    have b := Below.refl W0.heap.size W0
    refine (HV.out _).mono ?_
    rintro e w1 ⟨rfl, hb⟩
    have z := keepB hp q0 q1 q2 q3 b hb
    clear q0 q1 q2 q3 b hb
    obtain ⟨q0, q1, q2, q3, b⟩ := z
    go_wp2_with fail
    go_ret2
    exact ⟨rfl, HB2.out _ b⟩
  rw [hv] at HV
  cases hx : inB x 0 5000
  · rw [show codC true false = 2 from rfl, show (true && false) = false from rfl, vB_no]
    go_enter Try.func6, Try.ntmps6
    go_wp2_with fail
    generalize w.alloc (.cells #[.string s, .int .i64 r, .int .i64 l, .int .i64 c] 25) = W0 at *
    have HB2 : Hid (∀ W, Below W0.heap.size W0 W → Below w.heap.size w W) := fun W hW => HB.out.trans (hW.mono (by omega))
    have b := Below.refl W0.heap.size W0
    refine (HV.out _).mono ?_
    rintro e w1 ⟨rfl, hb⟩
    have z := keepB hp q0 q1 q2 q3 b hb
    clear q0 q1 q2 q3 b hb
    obtain ⟨q0, q1, q2, q3, b⟩ := z
    go_wp2_with fail
    refine (isSide_any _ _).mono ?_
    rintro e w2 ⟨rfl, rfl⟩
    go_wp2_with fail
    go_ret2
    exact ⟨rfl, HB2.out _ b⟩
  rw [show codC true true = 0 from rfl, show (true && true) = true from rfl, vB_yes]
  obtain ⟨_, hr, hl, hc⟩ := bendB_iff.1 hv
  have HD := Lib.hid (fun W => speedIn_any s r l c x ⟨by omega, by omega⟩ hc W)
  clear hr hl hc
  go_enter Try.func6, Try.ntmps6
  go_wp2_with fail
  generalize w.alloc (.cells #[.string s, .int .i64 r, .int .i64 l, .int .i64 c] 25) = W0 at *
  have HB2 : Hid (∀ W, Below W0.heap.size W0 W → Below w.heap.size w W) := fun W hW => HB.out.trans (hW.mono (by omega))
  have b := Below.refl W0.heap.size W0
  refine (HV.out _).mono ?_
  rintro e w1 ⟨rfl, hb⟩
  have z := keepB hp q0 q1 q2 q3 b hb
  clear q0 q1 q2 q3 b hb
  obtain ⟨q0, q1, q2, q3, b⟩ := z
  go_wp2_with fail
  refine (isSide_any _ _).mono ?_
  rintro e w2 ⟨rfl, rfl⟩
  go_wp2_with fail
  refine (HD.out _).mono ?_
  rintro e w4 ⟨rfl, hb⟩
  have z := keepB hp q0 q1 q2 q3 b hb
  clear q0 q1 q2 q3 b hb
  obtain ⟨q0, q1, q2, q3, b⟩ := z
  go_wp2_with fail
  go_ret2
  exact ⟨rfl, HB2.out _ b⟩

theorem specSpeedIn_any (s : ByteArray) (r l c : Int) (x : Int) (hz : s.size ≤ 9223372036854775807) (w : World) :
    Calls Try.prog 16 #[.agg #[.string s, .int .i64 r, .int .i64 l, .int .i64 c], .int .i64 x] w fun e w' => e = .returned (.tuple #[.int .i64 (vB (bendB s r l c && inB x 0 5000) (spdT r c x - 1)), .int .i64 (codC (bendB s r l c) (inB x 0 5000))]) ∧ Below w.heap.size w w' := by
  obtain ⟨q0, q1, q2, q3, q4, q5⟩ := boxed4 w 25 (.string s) (.int .i64 r) (.int .i64 l) (.int .i64 c)
  have HV := Lib.hid (one_any w.heap.size 0 s r l c hz _ q0 q1 q2 q3)
  have HQ := Lib.hid (And.intro q1 q3)
  have HB := Lib.hid q4
  clear q0 q1 q2 q3 q4 q5
  cases hv : bendB s r l c
  · obtain ⟨e1, e2⟩ := cod_bad (b1 := false) (b2 := inB x 0 5000) rfl
    rw [hv] at HV
    rw [e1, e2, vB_no]
    clear e1 e2
    go_enter Try.func16, Try.ntmps16
    go_wp2_with (first | (go_at_call 31; refine HV.out.mono ?_; rintro e w1 ⟨rfl, rfl⟩) | (go_at_call 36; refine (most_any _ _).mono ?_; rintro e w1 ⟨rfl, rfl⟩) | (go_at_call 37; refine HD.out.mono ?_; rintro e w1 ⟨rfl, m, rfl⟩))
    go_ret2
    exact ⟨rfl, HB.out⟩
  rw [hv] at HV
  cases hx : inB x 0 5000
  · rw [show codC true false = 2 from rfl, show (true && false) = false from rfl, vB_no]
    go_enter Try.func16, Try.ntmps16
    go_wp2_with (first | (go_at_call 31; refine HV.out.mono ?_; rintro e w1 ⟨rfl, rfl⟩) | (go_at_call 36; refine (most_any _ _).mono ?_; rintro e w1 ⟨rfl, rfl⟩) | (go_at_call 37; refine HD.out.mono ?_; rintro e w1 ⟨rfl, m, rfl⟩))
    go_ret2
    exact ⟨rfl, HB.out⟩
  rw [show codC true true = 0 from rfl, show (true && true) = true from rfl, vB_yes]
  obtain ⟨_, hr, hl, hc⟩ := bendB_iff.1 hv
  have HD := Lib.hid (specIn_any w.heap.size 0 r c x ⟨by omega, by omega⟩ hc (inB_iff.1 hx).1 (w.alloc (.cells #[.string s, .int .i64 r, .int .i64 l, .int .i64 c] 25)) HQ.out.1 HQ.out.2)
  clear hr hl hc
  go_enter Try.func16, Try.ntmps16
  go_wp2_with (first | (go_at_call 31; refine HV.out.mono ?_; rintro e w1 ⟨rfl, rfl⟩) | (go_at_call 36; refine (most_any _ _).mono ?_; rintro e w1 ⟨rfl, rfl⟩) | (go_at_call 37; refine HD.out.mono ?_; rintro e w1 ⟨rfl, m, rfl⟩))
  go_ret2
  exact ⟨rfl, HB.out.trans (drew_down ⟨_, rfl⟩ _)⟩

theorem implEvenSpeed_any (s : ByteArray) (r l c : Int) (hz : s.size ≤ 9223372036854775807) (w : World) :
    Calls Try.prog 8 #[.agg #[.string s, .int .i64 r, .int .i64 l, .int .i64 c]] w fun e w' => e = .returned (.tuple #[.int .i64 (vB (bendB s r l c && inB 0 0 5000) (spdT r c 0 - 1)), .int .i64 (codC (bendB s r l c) (inB 0 0 5000))]) ∧ Below w.heap.size w w' := by
  have HV := Lib.hid (fun W => implSpeedIn_any s r l c 0 hz W)
  obtain ⟨q0, q1, q2, q3, q4, q5⟩ := boxed4 w 25 (.string s) (.int .i64 r) (.int .i64 l) (.int .i64 c)
  have HB := Lib.hid q4
  have hp : w.heap.size < (w.alloc (.cells #[.string s, .int .i64 r, .int .i64 l, .int .i64 c] 25)).heap.size := by omega
  clear q4 q5
  generalize vB (bendB s r l c && inB 0 0 5000) (spdT r c 0 - 1) = g1 at *
  generalize codC (bendB s r l c) (inB 0 0 5000) = g2 at *
  go_enter Try.func8, Try.ntmps8
  go_wp2_with fail
  generalize w.alloc (.cells #[.string s, .int .i64 r, .int .i64 l, .int .i64 c] 25) = W0 at *
  have HB2 : Hid (∀ W, Below W0.heap.size W0 W → Below w.heap.size w W) := fun W hW => HB.out.trans (hW.mono (by omega))
  have b := Below.refl W0.heap.size W0
  refine (HV.out _).mono ?_
  rintro e w1 ⟨rfl, hb⟩
  have z := keepB hp q0 q1 q2 q3 b hb
  clear q0 q1 q2 q3 b hb
  obtain ⟨q0, q1, q2, q3, b⟩ := z
  go_wp2_with fail
  go_ret2
  exact ⟨rfl, HB2.out _ b⟩

end Go.Proofs.Ytmjjobfaboljpaa.BndF

/- The walks of the wear of the rails of a bend, program and reference. -/
import Derived.Test.YtlknncmnphbpkaaGreatDoorBndA
namespace Go.Proofs.YtlknncmnphbpkaaGreatDoor.BndC
open Go.RowKit Go.Proofs.YtlknncmnphbpkaaGreatDoor.Plain Go.Proofs.YtlknncmnphbpkaaGreatDoor.WalkA Go.Proofs.YtlknncmnphbpkaaGreatDoor.WalkB Go.Proofs.YtlknncmnphbpkaaGreatDoor.WalkC Go.Proofs.YtlknncmnphbpkaaGreatDoor.WalkF Go.Proofs.YtlknncmnphbpkaaGreatDoor.WalkH Go.Proofs.YtlknncmnphbpkaaGreatDoor.BndA

def wearI (r a m : Int) : Int := divR (a * m * 10) r
theorem wear_bd {a m : Int} (ha : 0 ≤ a ∧ a ≤ 1000000) (hm : 0 ≤ m ∧ m ≤ 100000) : 0 ≤ a * m ∧ a * m ≤ 100000000000 := by
  refine ⟨Int.mul_nonneg ha.1 hm.1, ?_⟩
  have h1 := Int.mul_le_mul_of_nonneg_right ha.2 hm.1
  omega
def codC (b1 b2 : Bool) : Int := if b1 = true then (if b2 = true then 0 else 2) else 1
theorem cod_bad {b1 b2 : Bool} (h : b1 = false) : codC b1 b2 = 1 ∧ (b1 && b2) = false := by subst h; exact ⟨rfl, rfl⟩
theorem cod_out {b1 b2 : Bool} (h : b1 = true) (k : b2 = false) : codC b1 b2 = 2 ∧ (b1 && b2) = false := by subst h; subst k; exact ⟨rfl, rfl⟩
theorem cod_ok {b1 b2 : Bool} (h : b1 = true) (k : b2 = true) : codC b1 b2 = 0 ∧ (b1 && b2) = true := by subst h; subst k; exact ⟨rfl, rfl⟩
theorem isRides_any (n : Int) (w : World) : Calls Tryz.prog 28 #[.int .i64 n] w fun e w' => e = .returned (.bool (inB n 0 1000000)) ∧ w = w' := by
  go_enter Tryz.func28, Tryz.ntmps28
  go_wp2_with (go_at_call 50; refine (within_any _ _ _ _).mono ?_; rintro e w' ⟨rfl, rfl⟩)
  go_ret
  exact ⟨rfl, rfl⟩
theorem isLoad_any (n : Int) (w : World) : Calls Tryz.prog 23 #[.int .i64 n] w fun e w' => e = .returned (.bool (inB n 0 100000)) ∧ w = w' := by
  go_enter Tryz.func23, Tryz.ntmps23
  go_wp2_with (go_at_call 50; refine (within_any _ _ _ _).mono ?_; rintro e w' ⟨rfl, rfl⟩)
  go_ret
  exact ⟨rfl, rfl⟩
theorem isWear_any (n : Int) (w : World) : Calls Tryz.prog 24 #[.int .i64 n] w fun e w' => e = .returned (.bool (inB n 0 1000000)) ∧ w = w' := by
  go_enter Tryz.func24, Tryz.ntmps24
  go_wp2_with (go_at_call 50; refine (within_any _ _ _ _).mono ?_; rintro e w' ⟨rfl, rfl⟩)
  go_ret
  exact ⟨rfl, rfl⟩
theorem rides_any (n : Int) (w : World) : Calls Tryz.prog 35 #[.int .i64 n] w fun e w' => e = .returned (.bool (inB n 0 1000000)) ∧ w = w' := by
  go_enter Tryz.func35, Tryz.ntmps35
  go_wp2_with (go_at_call 56; refine (in_any _ _ _ _).mono ?_; rintro e w' ⟨rfl, rfl⟩)
  go_ret
  exact ⟨rfl, rfl⟩
theorem kilos_any (n : Int) (w : World) : Calls Tryz.prog 36 #[.int .i64 n] w fun e w' => e = .returned (.bool (inB n 0 100000)) ∧ w = w' := by
  go_enter Tryz.func36, Tryz.ntmps36
  go_wp2_with (go_at_call 56; refine (in_any _ _ _ _).mono ?_; rintro e w' ⟨rfl, rfl⟩)
  go_ret
  exact ⟨rfl, rfl⟩
theorem wear_any (s : ByteArray) (r l c : Int) (a m : Int) (hr : 1 ≤ r ∧ r ≤ 1000000000) (ha : 0 ≤ a ∧ a ≤ 1000000) (hm : 0 ≤ m ∧ m ≤ 100000) (w : World) :
    Calls Tryz.prog 27 #[.agg #[.string s, .int .i64 r, .int .i64 l, .int .i64 c], .int .i64 a, .int .i64 m] w fun e w' => e = .returned (.int .i64 (wearI r a m)) ∧ Below w.heap.size w w' := by
  have HB := Lib.hid ((Below.refl w.heap.size w).alloc (Nat.le_refl _) (.cells #[.string s, .int .i64 r, .int .i64 l, .int .i64 c] 25))
  obtain ⟨b1, b2⟩ := wear_bd ha hm
  obtain ⟨r1, r2⟩ := hr
  unfold wearI
  go_enter Tryz.func27, Tryz.ntmps27
  go_wp2_with fail
  refine (nearest_any _ _ (by omega) (by omega) (by omega) _).mono ?_
  rintro e w1 ⟨rfl, n1, rfl⟩
  go_wp2
  go_ret
  exact ⟨rfl, HB.out.trans (drew_down ⟨_, rfl⟩ _)⟩
theorem specWear_any (p o : Nat) (r a m : Int) (hr : 1 ≤ r ∧ r ≤ 1000000000) (ha : 0 ≤ a ∧ a ≤ 1000000) (hm : 0 ≤ m ∧ m ≤ 100000) (w : World) (h1 : w.cell? ⟨p, o + 1, none⟩ = some (.int .i64 r)) :
    Calls Tryz.prog 37 #[.pointer (some ⟨p, o, none⟩), .int .i64 a, .int .i64 m] w fun e w' => e = .returned (.int .i64 (wearI r a m)) ∧ w = w' := by
  obtain ⟨b1, b2⟩ := wear_bd ha hm
  obtain ⟨r1, r2⟩ := hr
  unfold wearI
  go_enter Tryz.func37, Tryz.ntmps37
  go_wp2_with fail
  refine (specDiv_any _ _ (by omega) (by omega) (by omega) _).mono ?_
  rintro e w1 ⟨rfl, rfl⟩
  go_wp2
  go_ret
  exact ⟨rfl, rfl⟩

theorem implRailWear_any (s : ByteArray) (r l c : Int) (x y : Int) (hz : s.size ≤ 9223372036854775807) (w : World) :
    Calls Tryz.prog 7 #[.agg #[.string s, .int .i64 r, .int .i64 l, .int .i64 c], .int .i64 x, .int .i64 y] w fun e w' => e = .returned (.tuple #[.int .i64 (vB (bendB s r l c && (inB x 0 1000000 && inB y 0 100000)) (wearI r x y)), .int .i64 (codC (bendB s r l c) (inB x 0 1000000 && inB y 0 100000))]) ∧ Below w.heap.size w w' := by
  have HV := Lib.hid (fun W => validBend_any s r l c hz W)
  obtain ⟨q0, q1, q2, q3, q4, q5⟩ := boxed4 w 25 (.string s) (.int .i64 r) (.int .i64 l) (.int .i64 c)
  have HB := Lib.hid q4
  have hp : w.heap.size < (w.alloc (.cells #[.string s, .int .i64 r, .int .i64 l, .int .i64 c] 25)).heap.size := by omega
  clear q4 q5
  cases hv : bendB s r l c
  · obtain ⟨e1, e2⟩ := cod_bad (b1 := false) (b2 := inB x 0 1000000 && inB y 0 100000) rfl
    rw [hv] at HV
    rw [e1, e2, vB_no]
    clear e1 e2
    go_enter Tryz.func7, Tryz.ntmps7
    go_wp2_with fail
    generalize w.alloc (.cells #[.string s, .int .i64 r, .int .i64 l, .int .i64 c] 25) = W0 at *
    have HB2 : Hid (∀ W, Below W0.heap.size W0 W → Below w.heap.size w W) := fun W hW => HB.out.trans (hW.mono (by omega))
    have b := Below.refl W0.heap.size W0
    refine (HV.out _).mono ?_
    rintro e w1 ⟨rfl, hb⟩
    have z := keepB hp q0 q1 q2 q3 b hb
    clear q0 q1 q2 q3 b hb
    obtain ⟨q0, q1, q2, q3, b⟩ := z
    go_wp2_with fail
    go_ret2
    exact ⟨rfl, HB2.out _ b⟩
  rw [hv] at HV
  cases hx : inB x 0 1000000
  · rw [show codC true (false && inB y 0 100000) = 2 from rfl, show (true && (false && inB y 0 100000)) = false from rfl, vB_no]
    go_enter Tryz.func7, Tryz.ntmps7
    go_wp2_with fail
    generalize w.alloc (.cells #[.string s, .int .i64 r, .int .i64 l, .int .i64 c] 25) = W0 at *
    have HB2 : Hid (∀ W, Below W0.heap.size W0 W → Below w.heap.size w W) := fun W hW => HB.out.trans (hW.mono (by omega))
    have b := Below.refl W0.heap.size W0
    refine (HV.out _).mono ?_
    rintro e w1 ⟨rfl, hb⟩
    have z := keepB hp q0 q1 q2 q3 b hb
    clear q0 q1 q2 q3 b hb
    obtain ⟨q0, q1, q2, q3, b⟩ := z
    go_wp2_with fail
    refine (isRides_any _ _).mono ?_
    rintro e w2 ⟨rfl, rfl⟩
    go_wp2_with fail
    go_ret2
    exact ⟨rfl, HB2.out _ b⟩
  cases hy : inB y 0 100000
  · rw [show codC true (true && false) = 2 from rfl, show (true && (true && false)) = false from rfl, vB_no]
    go_enter Tryz.func7, Tryz.ntmps7
    go_wp2_with fail
    generalize w.alloc (.cells #[.string s, .int .i64 r, .int .i64 l, .int .i64 c] 25) = W0 at *
    have HB2 : Hid (∀ W, Below W0.heap.size W0 W → Below w.heap.size w W) := fun W hW => HB.out.trans (hW.mono (by omega))
    have b := Below.refl W0.heap.size W0
    refine (HV.out _).mono ?_
    rintro e w1 ⟨rfl, hb⟩
    have z := keepB hp q0 q1 q2 q3 b hb
    clear q0 q1 q2 q3 b hb
    obtain ⟨q0, q1, q2, q3, b⟩ := z
    go_wp2_with fail
    refine (isRides_any _ _).mono ?_
    rintro e w2 ⟨rfl, rfl⟩
    go_wp2_with fail
    refine (isLoad_any _ _).mono ?_
    rintro e w3 ⟨rfl, rfl⟩
    go_wp2_with fail
    go_ret2
    exact ⟨rfl, HB2.out _ b⟩
  rw [show codC true (true && true) = 0 from rfl, show (true && (true && true)) = true from rfl, vB_yes]
  obtain ⟨_, hr, hl, hc⟩ := bendB_iff.1 hv
  have HD := Lib.hid (fun W => wear_any s r l c x y ⟨by omega, by omega⟩ (inB_iff.1 hx) (inB_iff.1 hy) W)
  clear hr hl hc
  go_enter Tryz.func7, Tryz.ntmps7
  go_wp2_with fail
  generalize w.alloc (.cells #[.string s, .int .i64 r, .int .i64 l, .int .i64 c] 25) = W0 at *
  have HB2 : Hid (∀ W, Below W0.heap.size W0 W → Below w.heap.size w W) := fun W hW => HB.out.trans (hW.mono (by omega))
  have b := Below.refl W0.heap.size W0
  refine (HV.out _).mono ?_
  rintro e w1 ⟨rfl, hb⟩
  have z := keepB hp q0 q1 q2 q3 b hb
  clear q0 q1 q2 q3 b hb
  obtain ⟨q0, q1, q2, q3, b⟩ := z
  go_wp2_with fail
  refine (isRides_any _ _).mono ?_
  rintro e w2 ⟨rfl, rfl⟩
  go_wp2_with fail
  refine (isLoad_any _ _).mono ?_
  rintro e w3 ⟨rfl, rfl⟩
  go_wp2_with fail
  refine (HD.out _).mono ?_
  rintro e w4 ⟨rfl, hb⟩
  have z := keepB hp q0 q1 q2 q3 b hb
  clear q0 q1 q2 q3 b hb
  obtain ⟨q0, q1, q2, q3, b⟩ := z
  go_wp2_with fail
  go_ret2
  exact ⟨rfl, HB2.out _ b⟩

theorem specRailWear_any (s : ByteArray) (r l c : Int) (x y : Int) (hz : s.size ≤ 9223372036854775807) (w : World) :
    Calls Tryz.prog 11 #[.agg #[.string s, .int .i64 r, .int .i64 l, .int .i64 c], .int .i64 x, .int .i64 y] w fun e w' => e = .returned (.tuple #[.int .i64 (vB (bendB s r l c && (inB x 0 1000000 && inB y 0 100000)) (wearI r x y)), .int .i64 (codC (bendB s r l c) (inB x 0 1000000 && inB y 0 100000))]) ∧ Below w.heap.size w w' := by
  obtain ⟨q0, q1, q2, q3, q4, q5⟩ := boxed4 w 25 (.string s) (.int .i64 r) (.int .i64 l) (.int .i64 c)
  have HV := Lib.hid (one_any w.heap.size 0 s r l c hz _ q0 q1 q2 q3)
  have HQ := Lib.hid q1
  have HB := Lib.hid q4
  clear q0 q1 q2 q3 q4 q5
  cases hv : bendB s r l c
  · obtain ⟨e1, e2⟩ := cod_bad (b1 := false) (b2 := inB x 0 1000000 && inB y 0 100000) rfl
    rw [hv] at HV
    rw [e1, e2, vB_no]
    clear e1 e2
    go_enter Tryz.func11, Tryz.ntmps11
    go_wp2_with (first | (go_at_call 34; refine HV.out.mono ?_; rintro e w1 ⟨rfl, rfl⟩))
    go_ret2
    exact ⟨rfl, HB.out⟩
  rw [hv] at HV
  cases hx : inB x 0 1000000
  · rw [show codC true (false && inB y 0 100000) = 2 from rfl, show (true && (false && inB y 0 100000)) = false from rfl, vB_no]
    go_enter Tryz.func11, Tryz.ntmps11
    go_wp2_with (first | (go_at_call 34; refine HV.out.mono ?_; rintro e w1 ⟨rfl, rfl⟩) | (go_at_call 35; refine (rides_any _ _).mono ?_; rintro e w1 ⟨rfl, rfl⟩))
    go_ret2
    exact ⟨rfl, HB.out⟩
  cases hy : inB y 0 100000
  · rw [show codC true (true && false) = 2 from rfl, show (true && (true && false)) = false from rfl, vB_no]
    go_enter Tryz.func11, Tryz.ntmps11
    go_wp2_with (first | (go_at_call 34; refine HV.out.mono ?_; rintro e w1 ⟨rfl, rfl⟩) | (go_at_call 35; refine (rides_any _ _).mono ?_; rintro e w1 ⟨rfl, rfl⟩) | (go_at_call 36; refine (kilos_any _ _).mono ?_; rintro e w1 ⟨rfl, rfl⟩))
    go_ret2
    exact ⟨rfl, HB.out⟩
  rw [show codC true (true && true) = 0 from rfl, show (true && (true && true)) = true from rfl, vB_yes]
  obtain ⟨_, hr, hl, hc⟩ := bendB_iff.1 hv
  have HD := Lib.hid (specWear_any w.heap.size 0 r x y ⟨by omega, by omega⟩ (inB_iff.1 hx) (inB_iff.1 hy) (w.alloc (.cells #[.string s, .int .i64 r, .int .i64 l, .int .i64 c] 25)) HQ.out)
  clear hr hl hc
  go_enter Tryz.func11, Tryz.ntmps11
  go_wp2_with (first | (go_at_call 34; refine HV.out.mono ?_; rintro e w1 ⟨rfl, rfl⟩) | (go_at_call 35; refine (rides_any _ _).mono ?_; rintro e w1 ⟨rfl, rfl⟩) | (go_at_call 36; refine (kilos_any _ _).mono ?_; rintro e w1 ⟨rfl, rfl⟩) | (go_at_call 37; refine HD.out.mono ?_; rintro e w1 ⟨rfl, rfl⟩))
  go_ret2
  exact ⟨rfl, HB.out⟩

end Go.Proofs.YtlknncmnphbpkaaGreatDoor.BndC

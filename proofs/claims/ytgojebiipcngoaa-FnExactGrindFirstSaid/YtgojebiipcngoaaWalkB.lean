/- The walks of quotients, lines and units. -/
import Derived.Test.YtgojebiipcngoaaWalkA
namespace Go.Proofs.Ytgojebiipcngoaa.WalkB
open Go.RowKit Go.Proofs.Ytgojebiipcngoaa.Plain Go.Proofs.Ytgojebiipcngoaa.WalkA

/-- Nothing but draws of the tape lies between two worlds. -/
def Drew (w w' : World) : Prop := ∃ n, w' = w.drewN n
theorem Drew.refl (w : World) : Drew w w := ⟨0, rfl⟩
theorem Drew.below {w w' : World} (h : Drew w w') (B : Nat) : Below B w w' := by
  obtain ⟨n, rfl⟩ := h
  exact ⟨rfl, rfl, rfl, Nat.le_refl _, fun _ _ => rfl⟩

theorem abs_same (n : Int) (hn : -4611686018427387904 ≤ n ∧ n ≤ 4611686018427387904) (w : World) : Calls Try.prog 42 #[.int .i64 n] w fun e w' => e = .returned (.int .i64 (absI n)) ∧ w' = w :=
  (abs_any n hn w).mono fun _ _ h => ⟨h.1, h.2.symm⟩

theorem specDiv_any (a b : Int) (ha : -1152921504606846976 ≤ a ∧ a ≤ 1152921504606846976) (hb : -1152921504606846976 ≤ b ∧ b ≤ 1152921504606846976) (h0 : b ≠ 0) (w : World) :
    Calls Try.prog 32 #[.int .i64 a, .int .i64 b] w fun e w' => e = .returned (.int .i64 (divR a b)) ∧ w = w' := by
  obtain ⟨ha1, ha2⟩ := ha
  obtain ⟨hb1, hb2⟩ := hb
  by_cases h1 : b < 0
  · by_cases h2 : 0 < a
    · have e : -((-b - 2 * -a) / (2 * -b)) = divR a b := by unfold divR posR; rw [if_pos h1, if_pos (by omega)]
      have HE := Lib.hid e
      have hq := ediv_bounds (x := -b - 2 * -a) (y := 2 * -b) (by omega) (by omega)
      obtain ⟨hq1, hq2⟩ := hq
      clear e h0
      go_enter Try.func32, Try.ntmps32
      go_wp2
      go_ret
      exact ⟨ret_int HE.out, rfl⟩
    · have e : (2 * -a + -b) / (2 * -b) = divR a b := by unfold divR posR; rw [if_pos h1, if_neg (by omega)]
      have HE := Lib.hid e
      have hq := ediv_bounds (x := 2 * -a + -b) (y := 2 * -b) (by omega) (by omega)
      obtain ⟨hq1, hq2⟩ := hq
      clear e h0
      go_enter Try.func32, Try.ntmps32
      go_wp2
      go_ret
      exact ⟨ret_int HE.out, rfl⟩
  · have h3 : 0 < b := by omega
    clear h1
    by_cases h2 : a < 0
    · have e : -((b - 2 * a) / (2 * b)) = divR a b := by unfold divR posR; rw [if_neg (by omega), if_pos (by omega)]
      have HE := Lib.hid e
      have hq := ediv_bounds (x := b - 2 * a) (y := 2 * b) (by omega) (by omega)
      obtain ⟨hq1, hq2⟩ := hq
      clear e h0
      go_enter Try.func32, Try.ntmps32
      go_wp2
      go_ret
      exact ⟨ret_int HE.out, rfl⟩
    · have e : (2 * a + b) / (2 * b) = divR a b := by unfold divR posR; rw [if_neg (by omega), if_neg (by omega)]
      have HE := Lib.hid e
      have hq := ediv_bounds (x := 2 * a + b) (y := 2 * b) (by omega) (by omega)
      obtain ⟨hq1, hq2⟩ := hq
      clear e h0
      go_enter Try.func32, Try.ntmps32
      go_wp2
      go_ret
      exact ⟨ret_int HE.out, rfl⟩

theorem nearest_any (a b : Int) (ha : -1152921504606846976 ≤ a ∧ a ≤ 1152921504606846976) (hb : -1152921504606846976 ≤ b ∧ b ≤ 1152921504606846976) (h0 : b ≠ 0) (w : World) :
    Calls Try.prog 35 #[.int .i64 a, .int .i64 b] w fun e w' => e = .returned (.int .i64 (divR a b)) ∧ Drew w w' := by
  rw [← nearR_eq a b h0]
  obtain ⟨ha1, ha2⟩ := ha
  obtain ⟨hb1, hb2⟩ := hb
  have hz : (b == 0) = false := by simpa using h0
  obtain ⟨m1, m2, m3, m4, m5, m6⟩ := nearR_bounds (a := a) h0
  have m7 : absI b ≤ 1152921504606846976 := by unfold absI; split <;> omega
  have m8 : absI a ≤ 1152921504606846976 := by unfold absI; split <;> omega
  go_enter Try.func35, Try.ntmps35
  go_wp2
  go_quiet ((go_at_call 42; exact Calls.quiet_of_same (abs_same _ (by omega) _)))
  go_wp2_with (go_at_call 42; refine (abs_any _ (by omega) _).mono ?_; rintro e w' ⟨rfl, rfl⟩)
  · have h1 : absI b - absI (a.tmod b) ≤ absI (a.tmod b) := by assumption
    have h2 : (!decide (a < 0) == decide (b < 0)) = true := by assumption
    go_ret
    exact ⟨ret_int (nearR_down h1 h2), _, rfl⟩
  · have h1 : absI b - absI (a.tmod b) ≤ absI (a.tmod b) := by assumption
    have h2 : (!decide (a < 0) == decide (b < 0)) = false := by assumption
    go_ret
    exact ⟨ret_int (nearR_up h1 h2), _, rfl⟩
  · have h1 : absI (a.tmod b) < absI b - absI (a.tmod b) := by assumption
    go_ret
    exact ⟨ret_int (nearR_stay h1), _, rfl⟩
end Go.Proofs.Ytgojebiipcngoaa.WalkB

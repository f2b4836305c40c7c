/- The walks of quotients, lines and units. -/
import Derived.Test.YtigonedjhjkmmaaDoorWalkA
namespace Go.Proofs.YtigonedjhjkmmaaDoor.WalkB
open Go.RowKit Go.Proofs.YtigonedjhjkmmaaDoor.Plain Go.Proofs.YtigonedjhjkmmaaDoor.WalkA

/-- Nothing but draws of the tape lies between two worlds. -/
def Drew (w w' : World) : Prop := ∃ n, w' = w.drewN n
theorem Drew.refl (w : World) : Drew w w := ⟨0, rfl⟩
theorem Drew.below {w w' : World} (h : Drew w w') (B : Nat) : Below B w w' := by
  obtain ⟨n, rfl⟩ := h
  exact ⟨rfl, rfl, rfl, Nat.le_refl _, fun _ _ => rfl⟩

theorem abs_same (n : Int) (hn : -4611686018427387904 ≤ n ∧ n ≤ 4611686018427387904) (w : World) : Calls Tryd.prog 31 #[.int .i64 n] w fun e w' => e = .returned (.int .i64 (absI n)) ∧ w' = w :=
  (abs_any n hn w).mono fun _ _ h => ⟨h.1, h.2.symm⟩

theorem nearest_any (a b : Int) (ha : -1152921504606846976 ≤ a ∧ a ≤ 1152921504606846976) (hb : -1152921504606846976 ≤ b ∧ b ≤ 1152921504606846976) (h0 : b ≠ 0) (w : World) :
    Calls Tryd.prog 19 #[.int .i64 a, .int .i64 b] w fun e w' => e = .returned (.int .i64 (divR a b)) ∧ Drew w w' := by
  rw [← nearR_eq a b h0]
  obtain ⟨ha1, ha2⟩ := ha
  obtain ⟨hb1, hb2⟩ := hb
  have hz : (b == 0) = false := by simpa using h0
  obtain ⟨m1, m2, m3, m4, m5, m6⟩ := nearR_bounds (a := a) h0
  have m7 : absI b ≤ 1152921504606846976 := by unfold absI; split <;> omega
  have m8 : absI a ≤ 1152921504606846976 := by unfold absI; split <;> omega
  go_enter Tryd.func19, Tryd.ntmps19
  go_wp2
  go_quiet ((go_at_call 31; exact Calls.quiet_of_same (abs_same _ (by omega) _)))
  go_wp2_with (go_at_call 31; refine (abs_any _ (by omega) _).mono ?_; rintro e w' ⟨rfl, rfl⟩)
  · have h1 : absI b - absI (a.tmod b) ≤ absI (a.tmod b) := by assumption
    have h2 : (!decide (a < 0) == decide (b < 0)) = true := by assumption
    go_ret
    exact ⟨ret_int (nearR_down h1 h2), _, rfl⟩
  · have h1 : absI b - absI (a.tmod b) ≤ absI (a.tmod b) := by assumption
    have h2 : (!decide (a < 0) == decide (b < 0)) = false := by assumption
    go_ret
    exact ⟨ret_int (nearR_up h1 h2), _, rfl⟩
  · have h1 : absI (a.tmod b) < absI b - absI (a.tmod b) := by assumption
    go_ret
    exact ⟨ret_int (nearR_stay h1), _, rfl⟩
end Go.Proofs.YtigonedjhjkmmaaDoor.WalkB

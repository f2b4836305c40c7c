/- The walks of the small functions of the first chapter: ranges, quotients, square roots. Each contract says what the function returns; bounds are stated at each. -/
import Derived.Test.YtgojebiipcngoaaRows
import Derived.Test.YtgojebiipcngoaaPlainB
import Derived.WalkKit
import Derived.WalkSpells
import Derived.WalkLawsBesides
import Derived.BigQuiet
import Derived.Lib.Hide
import Derived.Deep.QuietTactic
namespace Go.Proofs.Ytgojebiipcngoaa.WalkA
open Go.RowKit Go.Proofs.Ytgojebiipcngoaa.Plain

theorem ret_int {k : IntKind} {a b : Int} (h : a = b) : Ending.returned (.int k a) = .returned (.int k b) := by rw [h]
theorem ret_bool {a b : Bool} (h : a = b) : Ending.returned (.bool a) = .returned (.bool b) := by rw [h]

theorem within_any (n lo hi : Int) (w : World) : Calls Try.prog 34 #[.int .i64 n, .int .i64 lo, .int .i64 hi] w fun e w' => e = .returned (.bool (inB n lo hi)) ∧ w = w' := by
  by_cases h1 : lo ≤ n
  · by_cases h2 : n ≤ hi
    · have hb : inB n lo hi = true := inB_iff.2 ⟨h1, h2⟩
      have HB := Lib.hid hb
      clear hb
      go_enter Try.func34, Try.ntmps34
      go_wp2
      go_ret
      exact ⟨ret_bool HB.out.symm, rfl⟩
    · have hb : inB n lo hi = false := inB_not.2 fun h => h2 h.2
      have HB := Lib.hid hb
      clear hb
      go_enter Try.func34, Try.ntmps34
      go_wp2
      go_ret
      exact ⟨ret_bool HB.out.symm, rfl⟩
  · have hb : inB n lo hi = false := inB_not.2 fun h => h1 h.1
    have HB := Lib.hid hb
    clear hb
    go_enter Try.func34, Try.ntmps34
    go_wp2
    go_ret
    exact ⟨ret_bool HB.out.symm, rfl⟩

theorem in_any (n lo hi : Int) (w : World) : Calls Try.prog 31 #[.int .i64 n, .int .i64 lo, .int .i64 hi] w fun e w' => e = .returned (.bool (inB n lo hi)) ∧ w = w' := by
  by_cases h1 : lo ≤ n
  · by_cases h2 : n ≤ hi
    · have hb : inB n lo hi = true := inB_iff.2 ⟨h1, h2⟩
      have HB := Lib.hid hb
      clear hb
      go_enter Try.func31, Try.ntmps31
      go_wp2
      go_ret
      exact ⟨ret_bool HB.out.symm, rfl⟩
    · have hb : inB n lo hi = false := inB_not.2 fun h => h2 h.2
      have HB := Lib.hid hb
      clear hb
      go_enter Try.func31, Try.ntmps31
      go_wp2
      go_ret
      exact ⟨ret_bool HB.out.symm, rfl⟩
  · have hb : inB n lo hi = false := inB_not.2 fun h => h1 h.1
    have HB := Lib.hid hb
    clear hb
    go_enter Try.func31, Try.ntmps31
    go_wp2
    go_ret
    exact ⟨ret_bool HB.out.symm, rfl⟩

theorem abs_any (n : Int) (hn : -4611686018427387904 ≤ n ∧ n ≤ 4611686018427387904) (w : World) : Calls Try.prog 42 #[.int .i64 n] w fun e w' => e = .returned (.int .i64 (absI n)) ∧ w = w' := by
  by_cases h1 : n < 0
  · have hb : -n = absI n := by unfold absI; rw [if_pos h1]
    have HB := Lib.hid hb
    clear hb
    go_enter Try.func42, Try.ntmps42
    go_wp2
    go_ret
    exact ⟨ret_int HB.out, rfl⟩
  · have hb : n = absI n := by unfold absI; rw [if_neg h1]
    have HB := Lib.hid hb
    clear hb
    go_enter Try.func42, Try.ntmps42
    go_wp2
    go_ret
    exact ⟨ret_int HB.out, rfl⟩

end Go.Proofs.Ytgojebiipcngoaa.WalkA

/- The walks of the small functions of the first chapter: ranges, quotients, square roots. Each contract says what the function returns; bounds are stated at each. -/
import Derived.Test.YtigonedjhjkmmaaDoorRows
import Derived.Test.YtigonedjhjkmmaaDoorPlainB
import Derived.WalkKit
import Derived.WalkSpells
import Derived.WalkLawsBesides
import Derived.BigQuiet
import Derived.Lib.Hide
import Derived.Deep.QuietTactic
namespace Go.Proofs.YtigonedjhjkmmaaDoor.WalkA
open Go.RowKit Go.Proofs.YtigonedjhjkmmaaDoor.Plain

theorem ret_int {k : IntKind} {a b : Int} (h : a = b) : Ending.returned (.int k a) = .returned (.int k b) := by rw [h]
theorem ret_bool {a b : Bool} (h : a = b) : Ending.returned (.bool a) = .returned (.bool b) := by rw [h]

theorem within_any (n lo hi : Int) (w : World) : Calls Tryd.prog 21 #[.int .i64 n, .int .i64 lo, .int .i64 hi] w fun e w' => e = .returned (.bool (inB n lo hi)) ∧ w = w' := by
  by_cases h1 : lo ≤ n
  · by_cases h2 : n ≤ hi
    · have hb : inB n lo hi = true := inB_iff.2 ⟨h1, h2⟩
      have HB := Lib.hid hb
      clear hb
      go_enter Tryd.func21, Tryd.ntmps21
      go_wp2
      go_ret
      exact ⟨ret_bool HB.out.symm, rfl⟩
    · have hb : inB n lo hi = false := inB_not.2 fun h => h2 h.2
      have HB := Lib.hid hb
      clear hb
      go_enter Tryd.func21, Tryd.ntmps21
      go_wp2
      go_ret
      exact ⟨ret_bool HB.out.symm, rfl⟩
  · have hb : inB n lo hi = false := inB_not.2 fun h => h1 h.1
    have HB := Lib.hid hb
    clear hb
    go_enter Tryd.func21, Tryd.ntmps21
    go_wp2
    go_ret
    exact ⟨ret_bool HB.out.symm, rfl⟩

theorem abs_any (n : Int) (hn : -4611686018427387904 ≤ n ∧ n ≤ 4611686018427387904) (w : World) : Calls Tryd.prog 31 #[.int .i64 n] w fun e w' => e = .returned (.int .i64 (absI n)) ∧ w = w' := by
  by_cases h1 : n < 0
  · have hb : -n = absI n := by unfold absI; rw [if_pos h1]
    have HB := Lib.hid hb
    clear hb
    go_enter Tryd.func31, Tryd.ntmps31
    go_wp2
    go_ret
    exact ⟨ret_int HB.out, rfl⟩
  · have hb : n = absI n := by unfold absI; rw [if_neg h1]
    have HB := Lib.hid hb
    clear hb
    go_enter Tryd.func31, Tryd.ntmps31
    go_wp2
    go_ret
    exact ⟨ret_int HB.out, rfl⟩

theorem implRoot_any (n r : Int) (hn : -9223372036854775808 ≤ n ∧ n ≤ 9223372036854775807) (hr : IsRoot n r) (w : World) :
    Calls Tryd.prog 6 #[.int .i64 n] w fun e w' => e = .returned (.int .i64 r) ∧ w = w' := by
  obtain ⟨hn1, hn2⟩ := hn
  by_cases hz : n ≤ 0
  · have e : r = 0 := by
      by_cases h : n < 0
      · exact hr.1 h
      · obtain ⟨_, h0, h2⟩ := hr
        have h3 := (h2 (by omega)).1
        rcases Int.lt_or_le 0 r with h4 | h4
        · have := Int.mul_pos h4 h4; omega
        · omega
    subst e
    go_enter Tryd.func6, Tryd.ntmps6
    go_wp2
    go_ret
    exact ⟨rfl, rfl⟩
  have HR := Lib.hid hr
  clear hr
  go_enter Tryd.func6, Tryd.ntmps6
  go_wp2
  go_loop [3, 4] (fun l h => ∃ (q b : Int) (k : Nat), l = .int .i64 q ∧ h = .int .i64 (b / 2) ∧ 0 ≤ q ∧ q ≤ 4294967296 - b ∧ k ≤ 32 ∧ 1 ≤ b ∧ b ≤ 4294967296 ∧ (b = 2 ^ k) ∧ RootBit n q b) (fun _ h => (intOf h).toNat)
  case atStart => exact ⟨0, 4294967296, 32, rfl, rfl, by omega, by omega, by omega, by omega, by omega, by decide, RootBit.start (by omega) hn2⟩
  case round =>
    obtain ⟨q, b, k, rfl, rfl, h0, h1, hk, hb1, hb2, hpow, hR⟩ := hrel
    have HI := Lib.hid hR
    have HP := Lib.hid hpow
    clear hR hpow
    by_cases hlt : 1 < b
    · have hbit : 0 < b / 2 := by omega
      obtain ⟨k, rfl⟩ : ∃ j, k = j + 1 := ⟨k - 1, by
        have := HP.out
        rcases k with _ | k
        · simp at this; omega
        · simp⟩
      have hb2 : b = 2 * (b / 2) := by have := HP.out; rw [Int.pow_succ] at this; omega
      have HB := Lib.hid hb2
      have HP2 : Hid (b / 2 = 2 ^ k) := by have := HP.out; rw [Int.pow_succ] at this; show _ = _; omega
      clear hb2
      by_cases hle : (q + b / 2) * (q + b / 2) ≤ n
      · have hq := (le_quo (n := n) (m := q + b / 2) (by omega)).2 hle
        go_wp2
        go_round
        case rel => exact ⟨_, b / 2, k, rfl, rfl, by omega, by omega, by omega, by omega, by omega, HP2.out, RootBit.up (b := b / 2) (by have h := HI.out; rwa [HB.out] at h) hle⟩
        case measure => simp [intOf]; omega
      · have hq : ¬ (q + b / 2 ≤ n / (q + b / 2)) := fun h => hle ((le_quo (by omega)).1 h)
        go_wp2
        go_round
        case rel => exact ⟨_, b / 2, k, rfl, rfl, by omega, by omega, by omega, by omega, by omega, HP2.out, RootBit.down (b := b / 2) (by have h := HI.out; rwa [HB.out] at h) (by omega)⟩
        case measure => simp [intOf]; omega
    · go_wp2
      go_ret
      have e : b = 1 := by omega
      have h := HI.out
      rw [e] at h
      exact ⟨ret_int ((h.done h0 (by omega)).same HR.out), rfl⟩
end Go.Proofs.YtigonedjhjkmmaaDoor.WalkA

/- The walk of the search by halving, for whatever function value. -/
import Derived.Test.YtcpppiafjlgimaaPlainB
import Derived.Test.YtcpppiafjlgimaaWalkAs
import Derived.Shelf.Abstract
namespace Go.Proofs.Ytcpppiafjlgimaa.Least
open Go.RowKit Go.Proofs.Ytcpppiafjlgimaa.Plain Go.Proofs.Ytcpppiafjlgimaa.WalkA

/-- The search, for whatever function value g with captured variables lb: it answers p on all numbers from lo to hi, and turns nothing that was there. -/
theorem least_any (g : Nat) (lb : Array Value) (eg : Enters Try.prog g) (p : Int → Bool) (lo hi r : Int) (h0 : 0 ≤ lo) (h1 : lo ≤ hi + 1) (h2 : hi ≤ 1000000000000) (hp : Rises p lo hi) (hr : Turn p lo hi r) (w : World)
    (hc : ∀ (W : World) (n : Int), Below w.heap.size w W → lo ≤ n → n ≤ hi → Calls Try.prog g (#[.int .i64 n] ++ lb) W fun e W' => e = .returned (.bool (p n)) ∧ Below W.heap.size W W') :
    Calls Try.prog 29 #[.int .i64 lo, .int .i64 hi, .func (.func g) #[] lb] w fun e w' => e = .returned (.int .i64 r) ∧ Below w.heap.size w w' := by
  have HP := Lib.hid hp
  have HR := Lib.hid hr
  have HC := Lib.hid hc
  have he : ∀ (args : Array Value) (w : World), (callFunc g args).run Try.prog w = .ok (.enter g args) w := eg
  clear hp hr hc eg
  go_enter Try.func29, Try.ntmps29
  go_wp2
  go_loopw [0, 7] (fun s t wr => ∃ a b : Int, s = .int .i64 a ∧ t = .int .i64 b ∧ lo ≤ a ∧ a ≤ b ∧ b ≤ hi + 1 ∧ Hid (lo < a → p (a - 1) = false) ∧ Hid (b ≤ hi → p b = true) ∧ Below w.heap.size w wr) (fun s t _ => (intOf t - intOf s).toNat)
  case atStart => exact ⟨lo, hi + 1, rfl, rfl, by omega, by omega, by omega, fun h => by omega, fun h => by omega, Below.refl _ _⟩
  case round =>
    obtain ⟨a, b, rfl, rfl, a1, a2, a3, ha, hb, hbr⟩ := hrel
    by_cases hlt : a < b
    · have HM := Lib.hid (HC.out wr ((a + b) / 2) hbr (by omega) (by omega))
      cases hpm : p ((a + b) / 2)
      · rw [hpm] at HM
        have HF := Lib.hid hpm
        clear hpm
        go_wp2_with (go_at_fn g; refine HM.out.mono ?_; rintro e w1 ⟨rfl, hb1⟩)
        go_roundw
        case rel => exact ⟨_, _, rfl, rfl, by omega, by omega, by omega, fun _ => by rw [Int.add_sub_cancel]; exact HF.out, hb, hbr.trans (hb1.mono hbr.size)⟩
        case measure => simp [intOf]; omega
      · rw [hpm] at HM
        have HF := Lib.hid hpm
        clear hpm
        go_wp2_with (go_at_fn g; refine HM.out.mono ?_; rintro e w1 ⟨rfl, hb1⟩)
        go_roundw
        case rel => exact ⟨_, _, rfl, rfl, by omega, by omega, by omega, ha, fun _ => HF.out, hbr.trans (hb1.mono hbr.size)⟩
        case measure => simp [intOf]; omega
    · go_wp2
      go_ret
      have e : a = b := by omega
      subst e
      exact ⟨ret_int (Turn.same HP.out ⟨a1, a3, ha.out, hb.out⟩ HR.out), hbr⟩

theorem turn_exists (p : Int → Bool) (lo : Int) (k : Nat) : ∃ r, Turn p lo (lo + k - 1) r := by
  induction k with
  | zero => exact ⟨lo, by omega, by omega, fun h => by omega, fun h => by omega⟩
  | succ k ih =>
    obtain ⟨r, h1, h2, h3, h4⟩ := ih
    by_cases h : r ≤ lo + k - 1
    · exact ⟨r, h1, by omega, h3, fun _ => h4 h⟩
    · cases hp : p (lo + k)
      · exact ⟨lo + k + 1, by omega, by omega, fun _ => by rw [Int.add_sub_cancel]; exact hp, fun h => by omega⟩
      · have : r = lo + k := by omega
        subst this
        exact ⟨lo + k, h1, by omega, h3, fun _ => hp⟩
end Go.Proofs.Ytcpppiafjlgimaa.Least

/- The walks of searches by halving, sides of bends and the least radius, and of lines. -/
import Derived.Test.YtlknncmnphbpkaaGreatDoorWalkA
import Derived.Shelf.Abstract
namespace Go.Proofs.YtlknncmnphbpkaaGreatDoor.WalkF
open Go.RowKit Go.Proofs.YtlknncmnphbpkaaGreatDoor.Plain Go.Proofs.YtlknncmnphbpkaaGreatDoor.WalkA Go.Proofs.YtlknncmnphbpkaaGreatDoor.WalkB Go.Proofs.YtlknncmnphbpkaaGreatDoor.WalkC

/-- The search, for whatever function value g with captured variables lb: it answers p on all numbers from lo to hi, and turns nothing that was there. -/
theorem least_any (g : Nat) (lb : Array Value) (eg : Enters Tryz.prog g) (p : Int → Bool) (lo hi r : Int) (h0 : 0 ≤ lo) (h1 : lo ≤ hi + 1) (h2 : hi ≤ 1000000000000) (hp : Rises p lo hi) (hr : Turn p lo hi r) (w : World)
    (hc : ∀ (W : World) (n : Int), Below w.heap.size w W → lo ≤ n → n ≤ hi → Calls Tryz.prog g (#[.int .i64 n] ++ lb) W fun e W' => e = .returned (.bool (p n)) ∧ Below W.heap.size W W') :
    Calls Tryz.prog 25 #[.int .i64 lo, .int .i64 hi, .func (.func g) #[] lb] w fun e w' => e = .returned (.int .i64 r) ∧ Below w.heap.size w w' := by
  have HP := Lib.hid hp
  have HR := Lib.hid hr
  have HC := Lib.hid hc
  have he : ∀ (args : Array Value) (w : World), (callFunc g args).run Tryz.prog w = .ok (.enter g args) w := eg
  clear hp hr hc eg
  go_enter Tryz.func25, Tryz.ntmps25
  go_wp2
  go_loopw [0, 7] (fun s t wr => ∃ a b : Int, s = .int .i64 a ∧ t = .int .i64 b ∧ lo ≤ a ∧ a ≤ b ∧ b ≤ hi + 1 ∧ Hid (lo < a → p (a - 1) = false) ∧ Hid (b ≤ hi → p b = true) ∧ Below w.heap.size w wr) (fun s t _ => (intOf t - intOf s).toNat)
  case atStart => exact ⟨lo, hi + 1, rfl, rfl, by omega, by omega, by omega, fun h => by omega, fun h => by omega, Below.refl _ _⟩
  case round =>
    obtain ⟨a, b, rfl, rfl, a1, a2, a3, ha, hb, hbr⟩ := hrel
    by_cases hlt : a < b
    · have HM := Lib.hid (HC.out wr ((a + b) / 2) hbr (by omega) (by omega))
      cases hpm : p ((a + b) / 2)
      · rw [hpm] at HM
        have HF := Lib.hid hpm
        clear hpm
        go_wp2_with (go_at_fn g; refine HM.out.mono ?_; rintro e w1 ⟨rfl, hb1⟩)
        go_roundw
        case rel => exact ⟨_, _, rfl, rfl, by omega, by omega, by omega, fun _ => by rw [Int.add_sub_cancel]; exact HF.out, hb, hbr.trans (hb1.mono hbr.size)⟩
        case measure => simp [intOf]; omega
      · rw [hpm] at HM
        have HF := Lib.hid hpm
        clear hpm
        go_wp2_with (go_at_fn g; refine HM.out.mono ?_; rintro e w1 ⟨rfl, hb1⟩)
        go_roundw
        case rel => exact ⟨_, _, rfl, rfl, by omega, by omega, by omega, ha, fun _ => HF.out, hbr.trans (hb1.mono hbr.size)⟩
        case measure => simp [intOf]; omega
    · go_wp2
      go_ret
      have e : a = b := by omega
      subst e
      exact ⟨ret_int (Turn.same HP.out ⟨a1, a3, ha.out, hb.out⟩ HR.out), hbr⟩

/-! ### sides -/
theorem isCant_any (n : Int) (w : World) : Calls Tryz.prog 51 #[.int .i64 n] w fun e w' => e = .returned (.bool (inB n 0 200)) ∧ w = w' := by
  go_enter Tryz.func51, Tryz.ntmps51
  go_wp2_with (go_at_call 50; refine (within_any _ _ _ _).mono ?_; rintro e w' ⟨rfl, rfl⟩)
  go_ret
  exact ⟨rfl, rfl⟩
theorem isSide_any (n : Int) (w : World) : Calls Tryz.prog 39 #[.int .i64 n] w fun e w' => e = .returned (.bool (inB n 0 5000)) ∧ w = w' := by
  go_enter Tryz.func39, Tryz.ntmps39
  go_wp2_with (go_at_call 50; refine (within_any _ _ _ _).mono ?_; rintro e w' ⟨rfl, rfl⟩)
  go_ret
  exact ⟨rfl, rfl⟩
theorem cant_any (n : Int) (w : World) : Calls Tryz.prog 57 #[.int .i64 n] w fun e w' => e = .returned (.bool (inB n 0 200)) ∧ w = w' := by
  go_enter Tryz.func57, Tryz.ntmps57
  go_wp2_with (go_at_call 56; refine (in_any _ _ _ _).mono ?_; rintro e w' ⟨rfl, rfl⟩)
  go_ret
  exact ⟨rfl, rfl⟩
theorem most_any (n : Int) (w : World) : Calls Tryz.prog 42 #[.int .i64 n] w fun e w' => e = .returned (.bool (inB n 0 5000)) ∧ w = w' := by
  go_enter Tryz.func42, Tryz.ntmps42
  go_wp2_with (go_at_call 56; refine (in_any _ _ _ _).mono ?_; rintro e w' ⟨rfl, rfl⟩)
  go_ret
  exact ⟨rfl, rfl⟩

theorem absI_of {x B : Int} (h1 : 0 ≤ x) (h2 : x ≤ B) : absI x ≤ B := by unfold absI; split <;> omega
theorem side_bounds {v c r : Int} (hv : 0 ≤ v ∧ v ≤ 20000) (hc : 0 ≤ c ∧ c ≤ 200) (hr : 0 < r) :
    0 ≤ v * v ∧ v * v ≤ 400000000 ∧ 0 ≤ divR (v * v) r ∧ divR (v * v) r ≤ 400000000 ∧ 0 ≤ divR (981 * c) 100 ∧ divR (981 * c) 100 ≤ 196200 := by
  obtain ⟨h1, h2⟩ := sq_le hv.1 hv.2
  have h3 := divR_bound (a := v * v) (b := r) (by omega)
  have h4 := divR_bound (a := 981 * c) (b := 100) (by omega)
  have h5 := absI_of h1 h2
  have h6 := absI_of (x := 981 * c) (B := 196200) (by omega) (by omega)
  have h7 := divR_ge h1 hr
  have h8 := divR_ge (a := 981 * c) (b := 100) (by omega) (by omega)
  omega
theorem side_any (r c v : Int) (hr : 1 ≤ r ∧ r ≤ 1000000000) (hc : 0 ≤ c ∧ c ≤ 200) (hv : 0 ≤ v ∧ v ≤ 20000) (w : World) :
    Calls Tryz.prog 60 #[.int .i64 r, .int .i64 c, .int .i64 v] w fun e w' => e = .returned (.int .i64 (sideI r c v)) ∧ Drew w w' := by
  obtain ⟨b1, b2, b3, b4, b5, b6⟩ := side_bounds (r := r) hv hc (by omega)
  obtain ⟨r1, r2⟩ := hr
  obtain ⟨c1, c2⟩ := hc
  obtain ⟨v1, v2⟩ := hv
  go_enter Tryz.func60, Tryz.ntmps60
  go_wp2_with fail
  refine (nearest_any _ _ (by omega) (by omega) (by omega) _).mono ?_
  rintro e w1 ⟨rfl, n1, rfl⟩
  go_wp2_with fail
  refine (nearest_any _ _ (by omega) (by omega) (by omega) _).mono ?_
  rintro e w2 ⟨rfl, n2, rfl⟩
  go_wp2
  go_ret
  exact ⟨rfl, _, rfl⟩
theorem specSide_any (r c v : Int) (hr : 1 ≤ r ∧ r ≤ 1000000000) (hc : 0 ≤ c ∧ c ≤ 200) (hv : 0 ≤ v ∧ v ≤ 20000) (w : World) :
    Calls Tryz.prog 61 #[.int .i64 r, .int .i64 c, .int .i64 v] w fun e w' => e = .returned (.int .i64 (sideI r c v)) ∧ w = w' := by
  obtain ⟨b1, b2, b3, b4, b5, b6⟩ := side_bounds (r := r) hv hc (by omega)
  obtain ⟨r1, r2⟩ := hr
  obtain ⟨c1, c2⟩ := hc
  obtain ⟨v1, v2⟩ := hv
  go_enter Tryz.func61, Tryz.ntmps61
  go_wp2_with fail
  refine (specDiv_any _ _ (by omega) (by omega) (by omega) _).mono ?_
  rintro e w1 ⟨rfl, rfl⟩
  go_wp2_with fail
  refine (specDiv_any _ _ (by omega) (by omega) (by omega) _).mono ?_
  rintro e w2 ⟨rfl, rfl⟩
  go_wp2
  go_ret
  exact ⟨rfl, rfl⟩

/-! ### the least radius -/
def radB (v c m : Int) : Bool := inB v 0 20000 && (inB c 0 200 && inB m 0 5000)
def radP (v c m : Int) (r : Int) : Bool := decide (sideI r c v ≤ m)
theorem radP_rises {v c m : Int} : Rises (radP v c m) 10000 10000000 := by
  intro i j h1 h2 h3 h
  unfold radP at *
  have h4 := of_decide_eq_true h
  have := sideI_radius (r := i) (r' := j) (c := c) (v := v) (by omega) h2
  exact decide_eq_true (by omega)
/-- Is the value found one of those that were searched? -/
def radV (f : Bool) (r : Int) : Value := if f = true then (if 10000000 < r then .tuple #[.int .i64 0, .int .i64 3] else .tuple #[.int .i64 r, .int .i64 0]) else .tuple #[.int .i64 0, .int .i64 2]
theorem turn_exists (p : Int → Bool) (lo : Int) (k : Nat) : ∃ r, Turn p lo (lo + k - 1) r := by
  induction k with
  | zero => exact ⟨lo, by omega, by omega, fun h => by omega, fun h => by omega⟩
  | succ k ih =>
    obtain ⟨r, h1, h2, h3, h4⟩ := ih
    by_cases h : r ≤ lo + k - 1
    · exact ⟨r, h1, by omega, h3, fun _ => h4 h⟩
    · cases hp : p (lo + k)
      · exact ⟨lo + k + 1, by omega, by omega, fun _ => by rw [Int.add_sub_cancel]; exact hp, fun h => by omega⟩
      · have : r = lo + k := by omega
        subst this
        exact ⟨lo + k, h1, by omega, h3, fun _ => hp⟩

end Go.Proofs.YtlknncmnphbpkaaGreatDoor.WalkF

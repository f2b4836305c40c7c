/- The walks of the wear of the rails of a bend, program and reference. -/
import Derived.Test.YtgojebiipcngoaaBndA
namespace Go.Proofs.Ytgojebiipcngoaa.BndC
open Go.RowKit Go.Proofs.Ytgojebiipcngoaa.Plain Go.Proofs.Ytgojebiipcngoaa.WalkA Go.Proofs.Ytgojebiipcngoaa.WalkB Go.Proofs.Ytgojebiipcngoaa.WalkC Go.Proofs.Ytgojebiipcngoaa.WalkF Go.Proofs.Ytgojebiipcngoaa.WalkH Go.Proofs.Ytgojebiipcngoaa.BndA

def wearI (r a m : Int) : Int := divR (a * m * 10) r
theorem wear_bd {a m : Int} (ha : 0 ≤ a ∧ a ≤ 1000000) (hm : 0 ≤ m ∧ m ≤ 100000) : 0 ≤ a * m ∧ a * m ≤ 100000000000 := by
  refine ⟨Int.mul_nonneg ha.1 hm.1, ?_⟩
  have h1 := Int.mul_le_mul_of_nonneg_right ha.2 hm.1
  omega
def codC (b1 b2 : Bool) : Int := if b1 = true then (if b2 = true then 0 else 2) else 1
theorem cod_bad {b1 b2 : Bool} (h : b1 = false) : codC b1 b2 = 1 ∧ (b1 && b2) = false := by subst h; exact ⟨rfl, rfl⟩
theorem cod_out {b1 b2 : Bool} (h : b1 = true) (k : b2 = false) : codC b1 b2 = 2 ∧ (b1 && b2) = false := by subst h; subst k; exact ⟨rfl, rfl⟩
theorem cod_ok {b1 b2 : Bool} (h : b1 = true) (k : b2 = true) : codC b1 b2 = 0 ∧ (b1 && b2) = true := by subst h; subst k; exact ⟨rfl, rfl⟩
theorem isRides_any (n : Int) (w : World) : Calls Try.prog 21 #[.int .i64 n] w fun e w' => e = .returned (.bool (inB n 0 1000000)) ∧ w = w' := by
  go_enter Try.func21, Try.ntmps21
  go_wp2_with (go_at_call 34; refine (within_any _ _ _ _).mono ?_; rintro e w' ⟨rfl, rfl⟩)
  go_ret
  exact ⟨rfl, rfl⟩
theorem isLoad_any (n : Int) (w : World) : Calls Try.prog 22 #[.int .i64 n] w fun e w' => e = .returned (.bool (inB n 0 100000)) ∧ w = w' := by
  go_enter Try.func22, Try.ntmps22
  go_wp2_with (go_at_call 34; refine (within_any _ _ _ _).mono ?_; rintro e w' ⟨rfl, rfl⟩)
  go_ret
  exact ⟨rfl, rfl⟩
theorem isWear_any (n : Int) (w : World) : Calls Try.prog 23 #[.int .i64 n] w fun e w' => e = .returned (.bool (inB n 0 1000000)) ∧ w = w' := by
  go_enter Try.func23, Try.ntmps23
  go_wp2_with (go_at_call 34; refine (within_any _ _ _ _).mono ?_; rintro e w' ⟨rfl, rfl⟩)
  go_ret
  exact ⟨rfl, rfl⟩
theorem rides_any (n : Int) (w : World) : Calls Try.prog 15 #[.int .i64 n] w fun e w' => e = .returned (.bool (inB n 0 1000000)) ∧ w = w' := by
  go_enter Try.func15, Try.ntmps15
  go_wp2_with (go_at_call 31; refine (in_any _ _ _ _).mono ?_; rintro e w' ⟨rfl, rfl⟩)
  go_ret
  exact ⟨rfl, rfl⟩
theorem kilos_any (n : Int) (w : World) : Calls Try.prog 16 #[.int .i64 n] w fun e w' => e = .returned (.bool (inB n 0 100000)) ∧ w = w' := by
  go_enter Try.func16, Try.ntmps16
  go_wp2_with (go_at_call 31; refine (in_any _ _ _ _).mono ?_; rintro e w' ⟨rfl, rfl⟩)
  go_ret
  exact ⟨rfl, rfl⟩
theorem wear_any (s : ByteArray) (r l c : Int) (a m : Int) (hr : 1 ≤ r ∧ r ≤ 1000000000) (ha : 0 ≤ a ∧ a ≤ 1000000) (hm : 0 ≤ m ∧ m ≤ 100000) (w : World) :
    Calls Try.prog 24 #[.agg #[.string s, .int .i64 r, .int .i64 l, .int .i64 c], .int .i64 a, .int .i64 m] w fun e w' => e = .returned (.int .i64 (wearI r a m)) ∧ Below w.heap.size w w' := by
  have HB := Lib.hid ((Below.refl w.heap.size w).alloc (Nat.le_refl _) (.cells #[.string s, .int .i64 r, .int .i64 l, .int .i64 c] 41))
  obtain ⟨b1, b2⟩ := wear_bd ha hm
  obtain ⟨r1, r2⟩ := hr
  unfold wearI
  go_enter Try.func24, Try.ntmps24
  go_wp2_with fail
  refine (nearest_any _ _ (by omega) (by omega) (by omega) _).mono ?_
  rintro e w1 ⟨rfl, n1, rfl⟩
  go_wp2
  go_ret
  exact ⟨rfl, HB.out.trans (drew_down ⟨_, rfl⟩ _)⟩
theorem specWear_any (p o : Nat) (r a m : Int) (hr : 1 ≤ r ∧ r ≤ 1000000000) (ha : 0 ≤ a ∧ a ≤ 1000000) (hm : 0 ≤ m ∧ m ≤ 100000) (w : World) (h1 : w.cell? ⟨p, o + 1, none⟩ = some (.int .i64 r)) :
    Calls Try.prog 17 #[.pointer (some ⟨p, o, none⟩), .int .i64 a, .int .i64 m] w fun e w' => e = .returned (.int .i64 (wearI r a m)) ∧ w = w' := by
  obtain ⟨b1, b2⟩ := wear_bd ha hm
  obtain ⟨r1, r2⟩ := hr
  unfold wearI
  go_enter Try.func17, Try.ntmps17
  go_wp2_with fail
  refine (specDiv_any _ _ (by omega) (by omega) (by omega) _).mono ?_
  rintro e w1 ⟨rfl, rfl⟩
  go_wp2
  go_ret
  exact ⟨rfl, rfl⟩

end Go.Proofs.Ytgojebiipcngoaa.BndC

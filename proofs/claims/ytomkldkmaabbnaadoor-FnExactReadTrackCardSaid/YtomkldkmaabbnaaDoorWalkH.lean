/- The walks of names and of check values of bytes, program and reference. -/
import Derived.Test.YtomkldkmaabbnaaDoorWalkC
import Derived.Lib.ConvBytes
import Derived.Lib.Strings
namespace Go.Proofs.YtomkldkmaabbnaaDoor.WalkH
set_option maxRecDepth 100000
open Go.RowKit Go.Proofs.YtomkldkmaabbnaaDoor.Plain Go.Proofs.YtomkldkmaabbnaaDoor.WalkA Go.Proofs.YtomkldkmaabbnaaDoor.WalkB Go.Proofs.YtomkldkmaabbnaaDoor.WalkC

/-- A byte of a string, as a number. -/
def byteI (s : ByteArray) (k : Nat) : Int := ((s.data.toList.getD k 0).toNat : Int)
theorem byteI_get (s : ByteArray) (k : Nat) (h : k < s.size) : (s[k].toNat : Int) = byteI s k := by
  unfold byteI
  have : s.data.toList.getD k 0 = s[k] := by
    rw [List.getD_eq_getElem?_getD, List.getElem?_eq_getElem (by simpa using h)]; rfl
  rw [this]
theorem byteI_bd (s : ByteArray) (k : Nat) : 0 ≤ byteI s k ∧ byteI s k ≤ 255 := by
  unfold byteI
  have := (s.data.toList.getD k 0).toNat_lt
  omega
def okAt (i : Nat) (n : Int) : Bool := inB n 97 122 || (decide (i ≠ 0) && inB n 48 57)
theorem okAt_small {k : Nat} {n : Int} (h1 : 97 ≤ n) (h2 : n ≤ 122) : okAt k n = true := by simp [okAt, inB, h1, h2]
theorem okAt_first {k : Nat} {n : Int} (h : ¬ (97 ≤ n ∧ n ≤ 122)) (hk : k = 0) : okAt k n = false := by
  have := inB_not.2 h
  simp [okAt, this, hk]
theorem okAt_digit {k : Nat} {n : Int} (hk : k ≠ 0) (h1 : 48 ≤ n) (h2 : n ≤ 57) : okAt k n = true := by simp [okAt, inB, hk, h1, h2]
theorem okAt_none {k : Nat} {n : Int} (h : ¬ (97 ≤ n ∧ n ≤ 122)) (h' : ¬ (48 ≤ n ∧ n ≤ 57)) : okAt k n = false := by
  have := inB_not.2 h
  have := inB_not.2 h'
  simp [okAt, *]
def upTo (s : ByteArray) : Nat → Bool
  | 0 => true
  | k + 1 => upTo s k && okAt k (byteI s k)
theorem upTo_false {s : ByteArray} {k n : Nat} (h : upTo s k = false) (hk : k ≤ n) : upTo s n = false := by
  obtain ⟨j, rfl⟩ : ∃ j, n = k + j := ⟨n - k, by omega⟩
  induction j with
  | zero => exact h
  | succ j ih => show (upTo s (k + j) && _) = false; rw [ih (by omega)]; rfl
def nameB (s : ByteArray) : Bool := decide (1 ≤ s.size) && (decide (s.size ≤ 10) && upTo s s.size)
theorem nameB_short {s : ByteArray} (h : s.size = 0) : nameB s = false := by simp [nameB, h]
theorem nameB_long {s : ByteArray} (h : 10 < s.size) : nameB s = false := by simp [nameB]; omega
theorem nameB_mid {s : ByteArray} (h : 0 < s.size) (k : s.size ≤ 10) : nameB s = upTo s s.size := by simp [nameB, k]; omega

theorem digit_any (n : Int) (w : World) : Calls Tryd.prog 32 #[.int .u8 n] w fun e w' => e = .returned (.bool (inB n 48 57)) ∧ w = w' := by
  by_cases h1 : 48 ≤ n
  · by_cases h2 : n ≤ 57
    · have HB := Lib.hid (inB_iff.2 ⟨h1, h2⟩)
      go_enter Tryd.func32, Tryd.ntmps32
      go_wp2
      go_ret
      exact ⟨ret_bool HB.out.symm, rfl⟩
    · have HB := Lib.hid ((inB_not (n := n) (lo := 48) (hi := 57)).2 fun h => h2 h.2)
      go_enter Tryd.func32, Tryd.ntmps32
      go_wp2
      go_ret
      exact ⟨ret_bool HB.out.symm, rfl⟩
  · have HB := Lib.hid ((inB_not (n := n) (lo := 48) (hi := 57)).2 fun h => h1 h.1)
    go_enter Tryd.func32, Tryd.ntmps32
    go_wp2
    go_ret
    exact ⟨ret_bool HB.out.symm, rfl⟩

theorem below_bytes (w : World) (e : TypeId) (s : ByteArray) : Below w.heap.size w (Lib.bytesWorld w e s) :=
  ⟨rfl, rfl, rfl, by rw [Lib.bytesWorld_size]; omega, fun k hk => Lib.bytesWorld_at_old w e s k hk⟩
end Go.Proofs.YtomkldkmaabbnaaDoor.WalkH

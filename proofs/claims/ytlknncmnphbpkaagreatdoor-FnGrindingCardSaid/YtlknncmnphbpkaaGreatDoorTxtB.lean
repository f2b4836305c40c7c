/- Numbers in decimal, with leading zeros: walks of the program's Decimal and padded, of the reference's l02Two. -/
import Derived.Test.YtlknncmnphbpkaaGreatDoorTxtA
import Derived.Lib.LaidTab
import Derived.Lib.Repeat
namespace Go.Proofs.YtlknncmnphbpkaaGreatDoor.TxtB
open Go.RowKit Go.Proofs.YtlknncmnphbpkaaGreatDoor.Plain Go.Proofs.YtlknncmnphbpkaaGreatDoor.TxtA

/-- The library's table of powers lies where it did. -/
def Tab (w : World) : Prop := Lib.TabIs Tryz.prog w "internal/strconv.uint64pow10" .u64 Lib.pow10Tab
theorem Tab.below {w w' : World} (h : Tab w) (hb : Below w.heap.size w w') : Tab w' := Lib.tabBelow_of_tabIs h w' hb
theorem grow_below (w : World) (k : Nat) (os : Array Obj) : Below w.heap.size w (Sort.grow (w.drewN k) os) := by
  have h0 : Below w.heap.size w (w.drewN k) := ⟨rfl, rfl, rfl, Nat.le_refl _, fun _ _ => rfl⟩
  refine ⟨h0.os, h0.tape, h0.output, ?_, fun j hj => ?_⟩
  · rw [Sort.size_grow]; have := h0.size; omega
  · show ((w.drewN k).heap ++ os)[j]? = _
    rw [Array.getElem?_append_left (by have := h0.size; omega)]
    exact h0.block j hj

theorem implDecimal_any (n : Int) (h1 : -9223372036854775808 ≤ n) (h2 : n ≤ 9223372036854775807) (w : World) (ht : Tab w) :
    Calls Tryz.prog 67 #[.int .i64 n] w fun e w' => e = .returned (.string (dec n)) ∧ Below w.heap.size w w' := by
  have HF := Lib.hid (Tryz.strconv_FormatInt_10 n h1 h2 w ht)
  clear ht h1 h2
  go_enter Tryz.func67, Tryz.ntmps67
  go_wp2_with fail
  refine HF.out.mono ?_
  rintro e w1 ⟨rfl, k, os, rfl⟩
  have hb := grow_below w k os
  go_wp2_with fail
  go_ret
  exact ⟨rfl, hb⟩

/-- Noughts. -/
def zs (k : Nat) : ByteArray := ⟨(Lib.repeatL [48] k).toArray⟩
/-- A number with leading noughts. -/
def pad (n p : Int) : ByteArray := zs (p - ((dec n).size : Int)).toNat ++ dec n
theorem dec_size {n : Int} (h1 : -9223372036854775808 ≤ n) (h2 : n ≤ 9223372036854775807) : (dec n).size ≤ 21 := by
  have := Lib.itoa_length_le n h1 h2
  show (Lib.itoa n).toArray.size ≤ 21
  simpa using this

theorem zs_size (k : Nat) : (zs k).size = k := by
  show (Lib.repeatL [48] k).toArray.size = k
  rw [List.size_toArray, Lib.repeatL_length]
  simp

/-- A number with two digits. -/
def two (n : Int) : ByteArray := if n < 10 then ⟨#[48]⟩ ++ dec n else dec n
theorem dec_one {n : Int} (h0 : 0 ≤ n) (h1 : n < 10) : (dec n).size = 1 := by
  obtain ⟨u, rfl⟩ : ∃ u : Nat, n = u := ⟨n.toNat, by omega⟩
  show (Lib.itoa (u : Int)).toArray.size = 1
  rw [Lib.itoa_nonneg, Lib.decDigits_one (by omega)]
  rfl
theorem dec_two {n : Int} (h0 : 10 ≤ n) (h1 : n < 100) : (dec n).size = 2 := by
  obtain ⟨u, rfl⟩ : ∃ u : Nat, n = u := ⟨n.toNat, by omega⟩
  show (Lib.itoa (u : Int)).toArray.size = 2
  rw [Lib.itoa_nonneg, Lib.decDigits, dif_neg (by omega), Lib.decDigits_one (by omega)]
  rfl
theorem two_size {n : Int} (h0 : 0 ≤ n) (h1 : n < 100) : (two n).size = 2 := by
  unfold two
  by_cases h : n < 10
  · rw [if_pos h, ByteArray.size_append, dec_one h0 h]; rfl
  · rw [if_neg h, dec_two (by omega) h1]
theorem pad_two {n : Int} (h0 : 0 ≤ n) (h1 : n < 100) : pad n 2 = two n := by
  unfold two pad
  by_cases h : n < 10
  · rw [if_pos h, dec_one h0 h]
    rfl
  · rw [if_neg h, dec_two (by omega) h1]
    show zs 0 ++ dec n = dec n
    show (ByteArray.empty : ByteArray) ++ dec n = dec n
    exact ByteArray.empty_append

end Go.Proofs.YtlknncmnphbpkaaGreatDoor.TxtB

/- Plain laws on digits behind a point: a number below a power of ten, with leading noughts. -/
import Derived.Test.YtgjbpjpcihifnaaDoorTxtB
namespace Go.Proofs.YtgjbpjpcihifnaaDoor.TxtD
open Go.RowKit Go.Proofs.YtgjbpjpcihifnaaDoor.Plain Go.Proofs.YtgjbpjpcihifnaaDoor.TxtA Go.Proofs.YtgjbpjpcihifnaaDoor.TxtB

/-- Powers of ten. -/
def ten : Nat → Nat
  | 0 => 1
  | k + 1 => 10 * ten k
theorem ten_succ (k : Nat) : ten (k + 1) = 10 * ten k := rfl
theorem ten_zero : ten 0 = 1 := rfl
theorem ten_pos : ∀ k, 0 < ten k
  | 0 => by decide
  | k + 1 => by have := ten_pos k; rw [ten_succ]; omega
/-- The last digits of a number. -/
def pd : Nat → Nat → List UInt8
  | 0, _ => []
  | k + 1, r => pd k (r / 10) ++ [UInt8.ofNat (48 + r % 10)]
theorem digits_above : ∀ (k r : Nat), r < ten k → Lib.decDigits (r + ten k) = 49 :: pd k r
  | 0, r, h => by
    have : r = 0 := by rw [ten_zero] at h; omega
    subst this
    show Lib.decDigits 1 = _
    rw [Lib.decDigits_one (by omega)]
    rfl
  | k + 1, r, h => by
    have hp := ten_pos k
    rw [ten_succ] at h
    have h' : r / 10 < ten k := by omega
    have a : (r + ten (k + 1)) / 10 = r / 10 + ten k := by rw [ten_succ]; omega
    have b : (r + ten (k + 1)) % 10 = r % 10 := by rw [ten_succ]; omega
    have c : ¬ r + ten (k + 1) < 10 := by rw [ten_succ]; omega
    rw [Lib.decDigits, dif_neg c, a, b, digits_above k (r / 10) h']
    rfl
theorem rep_comm (x : UInt8) : ∀ k, Lib.repeatL [x] k ++ [x] = Lib.repeatL [x] (k + 1)
  | 0 => rfl
  | k + 1 => by
    show ([x] ++ Lib.repeatL [x] k) ++ [x] = [x] ++ Lib.repeatL [x] (k + 1)
    rw [List.append_assoc, rep_comm x k]
theorem pd_zero : ∀ k, pd k 0 = Lib.repeatL [48] k
  | 0 => rfl
  | k + 1 => by
    show pd k 0 ++ [48] = _
    rw [pd_zero k, rep_comm]
theorem pad_digits : ∀ (k r : Nat), r < ten (k + 1) → Lib.repeatL [48] (k + 1 - (Lib.decDigits r).length) ++ Lib.decDigits r = pd (k + 1) r
  | 0, r, h => by
    have hr : r < 10 := by rw [ten_succ, ten_zero] at h; omega
    rw [Lib.decDigits_one hr]
    show Lib.repeatL [48] 0 ++ [UInt8.ofNat (48 + r)] = [] ++ [UInt8.ofNat (48 + r % 10)]
    rw [Nat.mod_eq_of_lt hr]
    rfl
  | k + 1, r, h => by
    rw [ten_succ] at h
    have h' : r / 10 < ten (k + 1) := by omega
    by_cases hr : r < 10
    · rw [Lib.decDigits_one hr]
      show Lib.repeatL [48] (k + 1) ++ [UInt8.ofNat (48 + r)] = pd (k + 1) (r / 10) ++ [UInt8.ofNat (48 + r % 10)]
      rw [Nat.mod_eq_of_lt hr, Nat.div_eq_of_lt hr, pd_zero]
    · have e : Lib.decDigits r = Lib.decDigits (r / 10) ++ [UInt8.ofNat (48 + r % 10)] := by rw [Lib.decDigits, dif_neg hr]
      rw [e, List.length_append, List.length_singleton, ← List.append_assoc, show k + 1 + 1 - ((Lib.decDigits (r / 10)).length + 1) = k + 1 - (Lib.decDigits (r / 10)).length by omega, pad_digits k (r / 10) h']
      rfl
theorem ba_ext {a b : ByteArray} (h : a.data.toList = b.data.toList) : a = b := by
  cases a with | mk a => cases b with | mk b => simp only [ByteArray.mk.injEq]; exact Array.toList_inj.1 h
theorem dec_list (u : Nat) : (dec (u : Int)).data.toList = Lib.decDigits u := by
  show (Lib.itoa (u : Int)).toArray.toList = _
  rw [Lib.itoa_nonneg]
theorem ba_size (a : ByteArray) : a.size = a.data.toList.length := rfl
theorem pad_list (u k : Nat) (h : u < ten (k + 1)) : (pad (u : Int) ((k + 1 : Nat) : Int)).data.toList = pd (k + 1) u := by
  have e : (pad (u : Int) ((k + 1 : Nat) : Int)).data.toList = Lib.repeatL [48] (k + 1 - (Lib.decDigits u).length) ++ Lib.decDigits u := by
    unfold pad
    rw [ByteArray.data_append, Array.toList_append, dec_list, ba_size, dec_list, show (((k + 1 : Nat) : Int) - ((Lib.decDigits u).length : Int)).toNat = k + 1 - (Lib.decDigits u).length by omega]
    rfl
  rw [e, pad_digits k u h]
theorem above_list (u k : Nat) (h : u < ten k) : (dec ((u + ten k : Nat) : Int)).data.toList = 49 :: pd k u := by rw [dec_list, digits_above k u h]
theorem rest_pad (u k : Nat) (h : u < ten (k + 1)) : (dec ((u + ten (k + 1) : Nat) : Int)).extract 1 (dec ((u + ten (k + 1) : Nat) : Int)).size = pad (u : Int) ((k + 1 : Nat) : Int) := by
  apply ba_ext
  rw [Lib.extract_to_end, above_list u (k + 1) h, pad_list u k h]
  rfl
theorem pd_len : ∀ k r, (pd k r).length = k
  | 0, _ => rfl
  | k + 1, r => by show (pd k (r / 10) ++ _).length = _; rw [List.length_append, pd_len k]; rfl
theorem pad_len (u k : Nat) (h : u < ten (k + 1)) : (pad (u : Int) ((k + 1 : Nat) : Int)).size = k + 1 := by rw [ba_size, pad_list u k h, pd_len]
theorem above_len (u k : Nat) (h : u < ten k) : (dec ((u + ten k : Nat) : Int)).size = k + 1 := by rw [ba_size, above_list u k h, List.length_cons, pd_len]

end Go.Proofs.YtgjbpjpcihifnaaDoor.TxtD

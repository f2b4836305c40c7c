/- The walks of check values, program and reference. -/
import Derived.Test.YtmpjoigmjablpaaWalkH
namespace Go.Proofs.Ytmpjoigmjablpaa.WalkI
open Go.RowKit Go.Proofs.Ytmpjoigmjablpaa.Plain Go.Proofs.Ytmpjoigmjablpaa.WalkA Go.Proofs.Ytmpjoigmjablpaa.WalkB Go.Proofs.Ytmpjoigmjablpaa.WalkC Go.Proofs.Ytmpjoigmjablpaa.WalkH

theorem ofInt_i64 (a : Nat) (ha : a < 9223372036854775808) : (BitVec.ofInt 64 (a : Int)).toNat = a := by
  rw [BitVec.ofInt_natCast, BitVec.toNat_ofNat]; exact Nat.mod_eq_of_lt (by omega)
theorem i64_and_nat (a b : Nat) (ha : a < 9223372036854775808) (hb : b < 9223372036854775808) : bits .and .i64 (a : Int) (b : Int) = ((a &&& b : Nat) : Int) := by
  have hx : a &&& b < 2 ^ 63 := Nat.and_lt_two_pow _ (by omega)
  show IntKind.i64.wrap ((BitVec.ofInt 64 (a : Int) &&& BitVec.ofInt 64 (b : Int)).toNat : Int) = _
  rw [BitVec.toNat_and, ofInt_i64 a ha, ofInt_i64 b hb, IntKind.wrap_i64]
  omega
theorem i64_xor_nat (a b : Nat) (ha : a < 9223372036854775808) (hb : b < 9223372036854775808) : bits .xor .i64 (a : Int) (b : Int) = ((a ^^^ b : Nat) : Int) := by
  have hx : a ^^^ b < 2 ^ 63 := Nat.xor_lt_two_pow (by omega) (by omega)
  show IntKind.i64.wrap ((BitVec.ofInt 64 (a : Int) ^^^ BitVec.ofInt 64 (b : Int)).toNat : Int) = _
  rw [BitVec.toNat_xor, ofInt_i64 a ha, ofInt_i64 b hb, IntKind.wrap_i64]
  omega
theorem xor_bd {a b : Int} (ha : 0 ≤ a ∧ a ≤ 65535) (hb : 0 ≤ b ∧ b ≤ 65535) : 0 ≤ bits .xor .i64 a b ∧ bits .xor .i64 a b ≤ 65535 := by
  obtain ⟨x, rfl⟩ := Int.eq_ofNat_of_zero_le ha.1
  obtain ⟨y, rfl⟩ := Int.eq_ofNat_of_zero_le hb.1
  rw [i64_xor_nat x y (by omega) (by omega)]
  have : x ^^^ y < 2 ^ 16 := Nat.xor_lt_two_pow (by omega) (by omega)
  omega
theorem and_bd {a : Int} (ha : 0 ≤ a ∧ a ≤ 1000000) : 0 ≤ bits .and .i64 a 65535 ∧ bits .and .i64 a 65535 ≤ 65535 := by
  obtain ⟨x, rfl⟩ := Int.eq_ofNat_of_zero_le ha.1
  have h := i64_and_nat x 65535 (by omega) (by omega)
  have e : ((65535 : Nat) : Int) = 65535 := rfl
  rw [e] at h
  rw [h]
  have : x &&& 65535 ≤ 65535 := Nat.and_le_right
  omega
def bitStep (m : Int) : Int := if 65535 < m * 2 then bits .xor .i64 (bits .and .i64 (m * 2) 65535) 4129 else m * 2
def bitN (m : Int) : Nat → Int
  | 0 => m
  | j + 1 => bitStep (bitN m j)
theorem bitStep_bd {m : Int} (h : 0 ≤ m ∧ m ≤ 65535) : 0 ≤ bitStep m ∧ bitStep m ≤ 65535 := by
  unfold bitStep
  split
  · exact xor_bd (and_bd ⟨by omega, by omega⟩) (by omega)
  · omega
theorem bitN_bd {m : Int} (h : 0 ≤ m ∧ m ≤ 65535) (j : Nat) : 0 ≤ bitN m j ∧ bitN m j ≤ 65535 := by
  induction j with
  | zero => exact h
  | succ j ih => exact bitStep_bd ih
def crcI (s : ByteArray) (n : Int) : Nat → Int
  | 0 => n
  | k + 1 => bitN (bits .xor .i64 (crcI s n k) (byteI s k * 256)) 8
theorem crcI_bd {s : ByteArray} {n : Int} (h : 0 ≤ n ∧ n ≤ 65535) (k : Nat) : 0 ≤ crcI s n k ∧ crcI s n k ≤ 65535 := by
  induction k with
  | zero => exact h
  | succ k ih => exact bitN_bd (xor_bd ih (by have := byteI_bd s k; omega)) 8

theorem specCrcIn_any (s : ByteArray) (c : Int) (hs : s.size ≤ 9223372036854775807) (hc : 0 ≤ c ∧ c ≤ 65535) (w : World) : Calls Try.prog 56 #[.string s, .int .i64 c] w fun e w' => e = .returned (.int .i64 (crcI s c s.size)) ∧ w = w' := by
  have HC := Lib.hid hc
  clear hc
  go_enter Try.func56, Try.ntmps56
  go_wp2
  go_loop [1, 5] (fun x i => ∃ k : Nat, k ≤ s.size ∧ i = .int .i64 k ∧ x = .int .i64 (crcI s c k)) (fun _ i => s.size - (intOf i).toNat)
  case atStart => exact ⟨0, Nat.zero_le _, rfl, rfl⟩
  case round =>
    obtain ⟨k, hk, rfl, rfl⟩ := hrel
    obtain ⟨n1, n2⟩ := crcI_bd (s := s) HC.out k
    by_cases hlt : k < s.size
    · have hbv : 0 ≤ (s[k].toNat : Int) ∧ (s[k].toNat : Int) ≤ 255 := by rw [byteI_get s k hlt]; exact byteI_bd s k
      obtain ⟨hb1, hb2⟩ := hbv
      have HX := Lib.hid (xor_bd (a := crcI s c k) (b := (s[k].toNat : Int) * 256) ⟨n1, n2⟩ (by omega))
      have HK : Hid (crcI s c (k + 1) = bitN (bits .xor .i64 (crcI s c k) ((s[k].toNat : Int) * 256)) 8) := by rw [byteI_get s k hlt]; rfl
      go_wp2
      generalize bits .xor .i64 (crcI s c k) ((s[k].toNat : Int) * 256) = z at *
      go_loop [1, 6] (fun x i => ∃ j : Nat, j ≤ 8 ∧ i = .int .i64 j ∧ x = .int .i64 (bitN z j)) (fun _ i => 8 - (intOf i).toNat)
      case atStart => exact ⟨0, by omega, rfl, rfl⟩
      case round =>
        obtain ⟨j, hj, rfl, rfl⟩ := hrel
        obtain ⟨m1, m2⟩ := bitN_bd HX.out j
        by_cases hl2 : j < 8
        · by_cases hm : 65535 < bitN z j * 2
          · have HS : Hid (bitN z (j + 1) = bits .xor .i64 (bits .and .i64 (bitN z j * 2) 65535) 4129) := by show bitStep _ = _; unfold bitStep; rw [if_pos hm]
            go_wp2
            go_round
            case rel => exact ⟨j + 1, by omega, by go_num, by rw [HS.out]⟩
            case measure => simp [intOf]; omega
          · have HS : Hid (bitN z (j + 1) = bitN z j * 2) := by show bitStep _ = _; unfold bitStep; rw [if_neg hm]
            go_wp2
            go_round
            case rel => exact ⟨j + 1, by omega, by go_num, by rw [HS.out]⟩
            case measure => simp [intOf]; omega
        · have e : j = 8 := by omega
          have HE := Lib.hid e
          clear e
          go_wp2
          go_round
          case rel => exact ⟨k + 1, by omega, by go_num, by rw [HK.out, HE.out]⟩
          case measure => simp [intOf]; omega
    · have e : k = s.size := by omega
      have HE := Lib.hid e
      clear e
      go_wp2
      go_ret
      exact ⟨ret_int (by rw [HE.out]), rfl⟩

def crcV (s : ByteArray) (c : Int) : Int := valI (inB c 0 65535) (crcI s c s.size)
theorem crcV_no {s : ByteArray} {c : Int} (h : inB c 0 65535 = false) : (0 : Int) = crcV s c := by simp [crcV, valI, h]
theorem crcV_ok {s : ByteArray} {c : Int} (h : inB c 0 65535 = true) : crcI s c s.size = crcV s c := by simp [crcV, valI, h]
theorem specCrc_any (s : ByteArray) (c : Int) (hs : s.size ≤ 9223372036854775807) (w : World) : Calls Try.prog 29 #[.string s, .int .i64 c] w fun e w' => e = .returned (.int .i64 (crcV s c)) ∧ w = w' := by
  cases h : inB c 0 65535
  · have HE := Lib.hid (crcV_no (s := s) h)
    go_enter Try.func29, Try.ntmps29
    go_wp2_with (go_at_call 43; refine (in_any _ _ _ _).mono ?_; rintro e w' ⟨rfl, rfl⟩)
    go_ret
    exact ⟨ret_int HE.out, rfl⟩
  · have HE := Lib.hid (crcV_ok (s := s) h)
    have HC := Lib.hid (fun w => specCrcIn_any s c hs (inB_iff.1 h) w)
    go_enter Try.func29, Try.ntmps29
    go_wp2_with (first | (go_at_call 43; refine (in_any _ _ _ _).mono ?_; rintro e w' ⟨rfl, rfl⟩) | (go_at_call 56; refine (HC.out _).mono ?_; rintro e w' ⟨rfl, rfl⟩))
    go_ret
    exact ⟨ret_int HE.out, rfl⟩

theorem implCrc_any (s : ByteArray) (c : Int) (hs : s.size ≤ 9223372036854775807) (w : World) : Calls Try.prog 30 #[.string s, .int .i64 c] w fun e w' => e = .returned (.int .i64 (crcV s c)) ∧ Below w.heap.size w w' := by
  cases h : inB c 0 65535
  · have HE := Lib.hid (crcV_no (s := s) h)
    go_enter Try.func30, Try.ntmps30
    go_wp2_with (go_at_call 47; refine (within_any _ _ _ _).mono ?_; rintro e w' ⟨rfl, rfl⟩)
    go_ret
    exact ⟨ret_int HE.out, Below.refl _ _⟩
  have HE := Lib.hid (crcV_ok (s := s) h)
  have HC0 := Lib.hid (inB_iff.1 h)
  have hcv := Lib.run_convert_string_bytes (P := Try.prog) w 9 42 5 s Try.underlying9 Try.underlying42 Try.underlying5
  have HB := Lib.hid (below_bytes w 5 s)
  have HC := Lib.hid (fun k hk => Lib.bytesWorld_cell w 5 s k hk)
  go_enter Try.func30, Try.ntmps30
  go_wp2_with (go_at_call 47; refine (within_any _ _ _ _).mono ?_; rintro e w' ⟨rfl, rfl⟩)
  generalize Lib.bytesWorld w 5 s = w1 at *
  go_loop [5, 15] (fun x i => ∃ k : Nat, k ≤ s.size ∧ i = .int .i64 k ∧ x = .int .i64 (crcI s c k)) (fun _ i => s.size - (intOf i).toNat)
  case atStart => exact ⟨0, Nat.zero_le _, rfl, rfl⟩
  case round =>
    obtain ⟨k, hk, rfl, rfl⟩ := hrel
    obtain ⟨n1, n2⟩ := crcI_bd (s := s) HC0.out k
    by_cases hlt : k < s.size
    · have hcell : w1.cell? ⟨w.heap.size, k, none⟩ = some (.int .u8 (byteI s k)) := HC.out k hlt
      obtain ⟨hb1, hb2⟩ := byteI_bd s k
      have HX := Lib.hid (xor_bd (a := crcI s c k) (b := byteI s k * 256) ⟨n1, n2⟩ (by omega))
      have HK : Hid (crcI s c (k + 1) = bitN (bits .xor .i64 (crcI s c k) (byteI s k * 256)) 8) := rfl
      go_wp2
      generalize bits .xor .i64 (crcI s c k) (byteI s k * 256) = z at *
      go_loop [5, 24] (fun x i => ∃ j : Nat, j ≤ 8 ∧ i = .int .i64 j ∧ x = .int .i64 (bitN z j)) (fun _ i => 8 - (intOf i).toNat)
      case atStart => exact ⟨0, by omega, rfl, rfl⟩
      case round =>
        obtain ⟨j, hj, rfl, rfl⟩ := hrel
        obtain ⟨m1, m2⟩ := bitN_bd HX.out j
        by_cases hl2 : j < 8
        · by_cases hm : 65535 < bitN z j * 2
          · have HS : Hid (bitN z (j + 1) = bits .xor .i64 (bits .and .i64 (bitN z j * 2) 65535) 4129) := by show bitStep _ = _; unfold bitStep; rw [if_pos hm]
            go_wp2
            go_round
            case rel => exact ⟨j + 1, by omega, by go_num, by rw [HS.out]⟩
            case measure => simp [intOf]; omega
          · have HS : Hid (bitN z (j + 1) = bitN z j * 2) := by show bitStep _ = _; unfold bitStep; rw [if_neg hm]
            go_wp2
            go_round
            case rel => exact ⟨j + 1, by omega, by go_num, by rw [HS.out]⟩
            case measure => simp [intOf]; omega
        · have e : j = 8 := by omega
          have HE8 := Lib.hid e
          clear e
          go_wp2
          go_round
          case rel => exact ⟨k + 1, by omega, by go_num, by rw [HK.out, HE8.out]⟩
          case measure => simp [intOf]; omega
    · have e : k = s.size := by omega
      have HK := Lib.hid e
      clear e
      go_wp2
      go_ret
      exact ⟨ret_int (by rw [HK.out]; exact HE.out), HB.out⟩
end Go.Proofs.Ytmpjoigmjablpaa.WalkI

/- The walks of names and of check values of bytes, program and reference. -/
import Derived.Test.YtlknncmnphbpkaaGreatDoorWalkA
import Derived.Lib.ConvBytes
import Derived.Lib.Strings
namespace Go.Proofs.YtlknncmnphbpkaaGreatDoor.WalkH
set_option maxRecDepth 100000
open Go.RowKit Go.Proofs.YtlknncmnphbpkaaGreatDoor.Plain Go.Proofs.YtlknncmnphbpkaaGreatDoor.WalkA Go.Proofs.YtlknncmnphbpkaaGreatDoor.WalkB Go.Proofs.YtlknncmnphbpkaaGreatDoor.WalkC

/-- A byte of a string, as a number. -/
def byteI (s : ByteArray) (k : Nat) : Int := ((s.data.toList.getD k 0).toNat : Int)
theorem byteI_get (s : ByteArray) (k : Nat) (h : k < s.size) : (s[k].toNat : Int) = byteI s k := by
  unfold byteI
  have : s.data.toList.getD k 0 = s[k] := by
    rw [List.getD_eq_getElem?_getD, List.getElem?_eq_getElem (by simpa using h)]; rfl
  rw [this]
theorem byteI_bd (s : ByteArray) (k : Nat) : 0 ≤ byteI s k ∧ byteI s k ≤ 255 := by
  unfold byteI
  have := (s.data.toList.getD k 0).toNat_lt
  omega
def okAt (i : Nat) (n : Int) : Bool := inB n 97 122 || (decide (i ≠ 0) && inB n 48 57)
theorem okAt_small {k : Nat} {n : Int} (h1 : 97 ≤ n) (h2 : n ≤ 122) : okAt k n = true := by simp [okAt, inB, h1, h2]
theorem okAt_first {k : Nat} {n : Int} (h : ¬ (97 ≤ n ∧ n ≤ 122)) (hk : k = 0) : okAt k n = false := by
  have := inB_not.2 h
  simp [okAt, this, hk]
theorem okAt_digit {k : Nat} {n : Int} (hk : k ≠ 0) (h1 : 48 ≤ n) (h2 : n ≤ 57) : okAt k n = true := by simp [okAt, inB, hk, h1, h2]
theorem okAt_none {k : Nat} {n : Int} (h : ¬ (97 ≤ n ∧ n ≤ 122)) (h' : ¬ (48 ≤ n ∧ n ≤ 57)) : okAt k n = false := by
  have := inB_not.2 h
  have := inB_not.2 h'
  simp [okAt, *]
def upTo (s : ByteArray) : Nat → Bool
  | 0 => true
  | k + 1 => upTo s k && okAt k (byteI s k)
theorem upTo_false {s : ByteArray} {k n : Nat} (h : upTo s k = false) (hk : k ≤ n) : upTo s n = false := by
  obtain ⟨j, rfl⟩ : ∃ j, n = k + j := ⟨n - k, by omega⟩
  induction j with
  | zero => exact h
  | succ j ih => show (upTo s (k + j) && _) = false; rw [ih (by omega)]; rfl
def nameB (s : ByteArray) : Bool := decide (1 ≤ s.size) && (decide (s.size ≤ 10) && upTo s s.size)
theorem nameB_short {s : ByteArray} (h : s.size = 0) : nameB s = false := by simp [nameB, h]
theorem nameB_long {s : ByteArray} (h : 10 < s.size) : nameB s = false := by simp [nameB]; omega
theorem nameB_mid {s : ByteArray} (h : 0 < s.size) (k : s.size ≤ 10) : nameB s = upTo s s.size := by simp [nameB, k]; omega

theorem small_any (n : Int) (w : World) : Calls Tryz.prog 73 #[.int .u8 n] w fun e w' => e = .returned (.bool (inB n 97 122)) ∧ w = w' := by
  by_cases h1 : 97 ≤ n
  · by_cases h2 : n ≤ 122
    · have HB := Lib.hid (inB_iff.2 ⟨h1, h2⟩)
      go_enter Tryz.func73, Tryz.ntmps73
      go_wp2
      go_ret
      exact ⟨ret_bool HB.out.symm, rfl⟩
    · have HB := Lib.hid ((inB_not (n := n) (lo := 97) (hi := 122)).2 fun h => h2 h.2)
      go_enter Tryz.func73, Tryz.ntmps73
      go_wp2
      go_ret
      exact ⟨ret_bool HB.out.symm, rfl⟩
  · have HB := Lib.hid ((inB_not (n := n) (lo := 97) (hi := 122)).2 fun h => h1 h.1)
    go_enter Tryz.func73, Tryz.ntmps73
    go_wp2
    go_ret
    exact ⟨ret_bool HB.out.symm, rfl⟩
theorem digit_any (n : Int) (w : World) : Calls Tryz.prog 74 #[.int .u8 n] w fun e w' => e = .returned (.bool (inB n 48 57)) ∧ w = w' := by
  by_cases h1 : 48 ≤ n
  · by_cases h2 : n ≤ 57
    · have HB := Lib.hid (inB_iff.2 ⟨h1, h2⟩)
      go_enter Tryz.func74, Tryz.ntmps74
      go_wp2
      go_ret
      exact ⟨ret_bool HB.out.symm, rfl⟩
    · have HB := Lib.hid ((inB_not (n := n) (lo := 48) (hi := 57)).2 fun h => h2 h.2)
      go_enter Tryz.func74, Tryz.ntmps74
      go_wp2
      go_ret
      exact ⟨ret_bool HB.out.symm, rfl⟩
  · have HB := Lib.hid ((inB_not (n := n) (lo := 48) (hi := 57)).2 fun h => h1 h.1)
    go_enter Tryz.func74, Tryz.ntmps74
    go_wp2
    go_ret
    exact ⟨ret_bool HB.out.symm, rfl⟩

theorem specName_any (s : ByteArray) (hs : s.size ≤ 9223372036854775807) (w : World) : Calls Tryz.prog 55 #[.string s] w fun e w' => e = .returned (.bool (nameB s)) ∧ w = w' := by
  by_cases h0 : s.size = 0
  · rw [nameB_short h0]
    have hs0 : s = ByteArray.empty := by
      obtain ⟨⟨l⟩⟩ := s
      have : l = [] := List.eq_nil_of_length_eq_zero h0
      subst this; rfl
    subst hs0
    go_enter Tryz.func55, Tryz.ntmps55
    go_wp2
    go_ret
    exact ⟨rfl, rfl⟩
  have hpos : 0 < s.size := by omega
  have hne : s.toList.isEmpty = false := by
    rw [Lib.toList_data]
    have : s.data.toList.length ≠ 0 := by rw [← Lib.size_eq]; omega
    cases h : s.data.toList with
    | nil => rw [h] at this; exact absurd rfl this
    | cons a l => rfl
  by_cases h1 : 10 < s.size
  · rw [nameB_long h1]
    clear h0
    have h1' : (10 : Int) < (s.size : Int) := by omega
    go_enter Tryz.func55, Tryz.ntmps55
    go_wp2
    go_ret
    exact ⟨rfl, rfl⟩
  rw [nameB_mid hpos (by omega)]
  clear h0
  have h1' : (s.size : Int) ≤ 10 := by omega
  cases hs0 : inB (s[0].toNat : Int) 97 122
  · have HF : Hid (upTo s s.size = false) := by
      refine upTo_false (k := 1) ?_ (by omega)
      show (true && okAt 0 (byteI s 0)) = false
      rw [← byteI_get s 0 hpos]
      simp [okAt, hs0]
    go_enter Tryz.func55, Tryz.ntmps55
    go_wp2_with (go_at_call 73; refine (small_any _ _).mono ?_; rintro e w' ⟨rfl, rfl⟩)
    go_ret
    exact ⟨ret_bool HF.out.symm, rfl⟩
  · have H0 : Hid (inB (byteI s 0) 97 122 = true) := by rw [← byteI_get s 0 hpos]; exact hs0
    go_enter Tryz.func55, Tryz.ntmps55
    go_wp2_with (go_at_call 73; refine (small_any _ _).mono ?_; rintro e w' ⟨rfl, rfl⟩)
    go_loop [3] (fun i => ∃ k : Nat, k ≤ s.size ∧ i = .int .i64 k ∧ Hid (upTo s k = true)) (fun i => s.size - (intOf i).toNat)
    case atStart => exact ⟨0, Nat.zero_le _, rfl, rfl⟩
    case round =>
      obtain ⟨k, hk, rfl, hu⟩ := hrel
      by_cases hlt : k < s.size
      · cases hsm : inB (s[k].toNat : Int) 97 122
        · cases hdg : inB (s[k].toNat : Int) 48 57
          · have HF : Hid (upTo s s.size = false) := by
              refine upTo_false (k := k + 1) ?_ (by omega)
              show (upTo s k && okAt k (byteI s k)) = false
              rw [← byteI_get s k hlt]
              simp [okAt, hsm, hdg]
            go_wp2_with (first | (go_at_call 73; refine (small_any _ _).mono ?_; rintro e w' ⟨rfl, rfl⟩) | (go_at_call 74; refine (digit_any _ _).mono ?_; rintro e w' ⟨rfl, rfl⟩))
            go_ret
            exact ⟨ret_bool HF.out.symm, rfl⟩
          · have HT : Hid (upTo s (k + 1) = true) := by
              show (upTo s k && okAt k (byteI s k)) = true
              rw [hu.out, ← byteI_get s k hlt]
              have hk0 : k ≠ 0 := by
                rintro rfl
                rw [hsm] at hs0
                cases hs0
              simp [okAt, hdg, hk0]
            go_wp2_with (first | (go_at_call 73; refine (small_any _ _).mono ?_; rintro e w' ⟨rfl, rfl⟩) | (go_at_call 74; refine (digit_any _ _).mono ?_; rintro e w' ⟨rfl, rfl⟩))
            go_round
            case rel => exact ⟨k + 1, by omega, by go_num, HT⟩
            case measure => simp [intOf]; omega
        · have HT : Hid (upTo s (k + 1) = true) := by
            show (upTo s k && okAt k (byteI s k)) = true
            rw [hu.out, ← byteI_get s k hlt]
            simp [okAt, hsm]
          go_wp2_with (first | (go_at_call 73; refine (small_any _ _).mono ?_; rintro e w' ⟨rfl, rfl⟩) | (go_at_call 74; refine (digit_any _ _).mono ?_; rintro e w' ⟨rfl, rfl⟩))
          go_round
          case rel => exact ⟨k + 1, by omega, by go_num, HT⟩
          case measure => simp [intOf]; omega
      · go_wp2
        go_ret
        exact ⟨ret_bool (by have e : k = s.size := by omega
                            rw [← e]; exact hu.out.symm), rfl⟩

theorem below_bytes (w : World) (e : TypeId) (s : ByteArray) : Below w.heap.size w (Lib.bytesWorld w e s) :=
  ⟨rfl, rfl, rfl, by rw [Lib.bytesWorld_size]; omega, fun k hk => Lib.bytesWorld_at_old w e s k hk⟩
theorem implName_any (s : ByteArray) (hs : s.size ≤ 9223372036854775807) (w : World) : Calls Tryz.prog 49 #[.string s] w fun e w' => e = .returned (.bool (nameB s)) ∧ Below w.heap.size w w' := by
  have hcv := Lib.run_convert_string_bytes (P := Tryz.prog) w 9 22 5 s Tryz.underlying9 Tryz.underlying22 Tryz.underlying5
  by_cases h0 : s.size = 0
  · rw [nameB_short h0]
    go_enter Tryz.func49, Tryz.ntmps49
    go_wp2
    go_ret
    exact ⟨rfl, Below.refl _ _⟩
  have hpos : 0 < s.size := by omega
  by_cases h1 : 10 < s.size
  · rw [nameB_long h1]
    clear h0
    go_enter Tryz.func49, Tryz.ntmps49
    go_wp2
    go_ret
    exact ⟨rfl, Below.refl _ _⟩
  rw [nameB_mid hpos (by omega)]
  clear h0
  have d1 : decide ((s.size : Int) < 1) = false := by simp; omega
  have d2 : decide ((10 : Int) < (s.size : Int)) = false := by simp; omega
  have HB := Lib.hid (below_bytes w 5 s)
  have HC := Lib.hid (fun k hk => Lib.bytesWorld_cell w 5 s k hk)
  go_enter Tryz.func49, Tryz.ntmps49
  go_wp2
  generalize Lib.bytesWorld w 5 s = w1 at *
  go_loop [18] (fun i => ∃ k : Nat, k ≤ s.size ∧ i = .int .i64 k ∧ Hid (upTo s k = true)) (fun i => s.size - (intOf i).toNat)
  case atStart => exact ⟨0, Nat.zero_le _, rfl, rfl⟩
  case round =>
    obtain ⟨k, hk, rfl, hu⟩ := hrel
    by_cases hlt : k < s.size
    · have hcell := HC.out k hlt
      have hbv := byteI_bd s k
      obtain ⟨hbv1, hbv2⟩ := hbv
      have hcell2 : w1.cell? ⟨w.heap.size, k, none⟩ = some (.int .u8 (byteI s k)) := hcell
      clear hcell
      have hfin : okAt k (byteI s k) = false → Hid (upTo s s.size = false) := fun h => by
        refine upTo_false (k := k + 1) ?_ (by omega)
        show (upTo s k && okAt k (byteI s k)) = false
        rw [h]; simp
      have hgo : okAt k (byteI s k) = true → Hid (upTo s (k + 1) = true) := fun h => by
        show (upTo s k && okAt k (byteI s k)) = true
        rw [hu.out, h]; rfl
      have HFIN := Lib.hid hfin
      have HGO := Lib.hid hgo
      clear hfin hgo
      by_cases hk0 : k = 0
      · have hz : ((k : Int) == 0) = true := by simp [hk0]
        by_cases c1 : 97 ≤ byteI s k
        · by_cases c2 : byteI s k ≤ 122
          · have HT := HGO.out (okAt_small c1 c2)
            clear hz hk0
            go_wp2
            go_round
            case rel => exact ⟨k + 1, by omega, by go_num, HT⟩
            case measure => simp [intOf]; omega
          · have HF := HFIN.out (okAt_first (by omega) hk0)
            clear hk0
            go_wp2
            go_ret
            exact ⟨ret_bool HF.out.symm, HB.out⟩
        · have HF := HFIN.out (okAt_first (by omega) hk0)
          clear hk0
          by_cases c3 : 48 ≤ byteI s k
          all_goals
            go_wp2
            go_ret
            exact ⟨ret_bool HF.out.symm, HB.out⟩
      · have hz : ((k : Int) == 0) = false := by simp; omega
        by_cases c1 : 97 ≤ byteI s k
        · by_cases c2 : byteI s k ≤ 122
          · have HT := HGO.out (okAt_small c1 c2)
            clear hz hk0
            go_wp2
            go_round
            case rel => exact ⟨k + 1, by omega, by go_num, HT⟩
            case measure => simp [intOf]; omega
          · have HF := HFIN.out (okAt_none (by omega) (by omega))
            clear hk0
            have c3 : 48 ≤ byteI s k := by omega
            have c4 : ¬ byteI s k ≤ 57 := by omega
            go_wp2
            go_ret
            exact ⟨ret_bool HF.out.symm, HB.out⟩
        · by_cases c3 : 48 ≤ byteI s k
          · by_cases c4 : byteI s k ≤ 57
            · have HT := HGO.out (okAt_digit hk0 c3 c4)
              clear hk0
              go_wp2
              go_round
              case rel => exact ⟨k + 1, by omega, by go_num, HT⟩
              case measure => simp [intOf]; omega
            · have HF := HFIN.out (okAt_none (by omega) (by omega))
              clear hk0
              go_wp2
              go_ret
              exact ⟨ret_bool HF.out.symm, HB.out⟩
          · have HF := HFIN.out (okAt_none (by omega) (by omega))
            clear hk0
            go_wp2
            go_ret
            exact ⟨ret_bool HF.out.symm, HB.out⟩
    · go_wp2
      go_ret
      exact ⟨ret_bool (by have e : k = s.size := by omega
                          rw [← e]; exact hu.out.symm), HB.out⟩
end Go.Proofs.YtlknncmnphbpkaaGreatDoor.WalkH

/- The walks of texts with places behind the point, of speeds and of dates, program and reference. -/
import Derived.Test.YtgjbpjpcihifnaaDoorTxtC
import Derived.Test.YtgjbpjpcihifnaaDoorTxtD
import Derived.IntWalk
import Derived.Laws.Concat
import Derived.Deep.RegionHeld3
namespace Go.Proofs.YtgjbpjpcihifnaaDoor.TxtE
open Go.RowKit Go.Proofs.YtgjbpjpcihifnaaDoor.Plain Go.Proofs.YtgjbpjpcihifnaaDoor.TxtA Go.Proofs.YtgjbpjpcihifnaaDoor.TxtB Go.Proofs.YtgjbpjpcihifnaaDoor.TxtC Go.Proofs.YtgjbpjpcihifnaaDoor.TxtD Go.Proofs.YtgjbpjpcihifnaaDoor.WalkA Go.Proofs.YtgjbpjpcihifnaaDoor.WalkC Go.Proofs.YtgjbpjpcihifnaaDoor.WalkD Go.Proofs.YtgjbpjpcihifnaaDoor.WalkE

theorem keepB {w wc w2 : World} (b : Below w.heap.size w wc) (h : Below wc.heap.size wc w2) : Below w.heap.size w w2 := b.trans (h.mono b.size)
theorem ten_le {k : Nat} (h : k ≤ 6) : ten k ≤ 1000000 := by
  have : k = 0 ∨ k = 1 ∨ k = 2 ∨ k = 3 ∨ k = 4 ∨ k = 5 ∨ k = 6 := by omega
  rcases this with rfl | rfl | rfl | rfl | rfl | rfl | rfl <;> decide
theorem l02Ten_any (k : Nat) (hk : k ≤ 6) (w : World) :
    Calls Tryd.prog 66 #[.int .i64 (k : Int)] w fun e w' => e = .returned (.int .i64 (ten k : Int)) ∧ w = w' := by
  go_enter Tryd.func66, Tryd.ntmps66
  go_wp2
  go_loopw [3, 4] (fun v i wr => ∃ j : Nat, j ≤ k ∧ i = .int .i64 (j : Int) ∧ v = .int .i64 (ten j : Int) ∧ wr = w) (fun _ i _ => ((k : Int) - intOf i).toNat)
  case atStart => exact ⟨0, by omega, rfl, rfl, rfl⟩
  case round =>
    obtain ⟨j, hj, rfl, rfl, rfl⟩ := hrel
    by_cases hlt : j < k
    · have h1 := ten_le (k := j) (by omega)
      have HS := Lib.hid (ten_succ j)
      generalize ten j = t at *
      go_wp2
      go_roundw
      case rel => exact ⟨j + 1, by omega, val64 (by omega), val64 (by rw [HS.out]; omega), by trivial⟩
      case measure => simp [intOf]; omega
    · obtain rfl : j = k := by omega
      go_wp2
      go_ret
      exact ⟨rfl, rfl⟩
def sgn (n : Int) : ByteArray := if n < 0 then ⟨#[45]⟩ else ⟨#[]⟩
def fixedQ (n : Int) (k : Nat) : ByteArray := ((sgn n ++ dec (absI n / (ten k : Int))) ++ ⟨#[46]⟩) ++ pad (absI n % (ten k : Int)) (k : Int)
theorem abs_parts {n : Int} {k : Nat} (h1 : -1000000000 ≤ n) (h2 : n ≤ 1000000000) (hk1 : 1 ≤ k) (hk2 : k ≤ 6) :
    0 ≤ absI n ∧ absI n ≤ 1000000000 ∧ 1 ≤ (ten k : Int) ∧ (ten k : Int) ≤ 1000000 ∧ 0 ≤ absI n / (ten k : Int) ∧ absI n / (ten k : Int) ≤ 1000000000 ∧ 0 ≤ absI n % (ten k : Int) ∧ absI n % (ten k : Int) < (ten k : Int) ∧
    (absI n).tdiv (ten k : Int) = absI n / (ten k : Int) ∧ (absI n).tmod (ten k : Int) = absI n % (ten k : Int) ∧ (pad (absI n % (ten k : Int)) (k : Int)).size = k ∧ (dec (absI n % (ten k : Int) + (ten k : Int))).size = k + 1 ∧
    (dec (absI n % (ten k : Int) + (ten k : Int))).extract 1 (dec (absI n % (ten k : Int) + (ten k : Int))).size = pad (absI n % (ten k : Int)) (k : Int) := by
  have a0 : 0 ≤ absI n := by unfold absI; split <;> omega
  have a1 : absI n ≤ 1000000000 := by unfold absI; split <;> omega
  have t0 := ten_pos k
  have t1 := ten_le hk2
  obtain ⟨i, rfl⟩ : ∃ i, k = i + 1 := ⟨k - 1, by omega⟩
  obtain ⟨a, ha⟩ : ∃ a : Nat, absI n = a := ⟨(absI n).toNat, by omega⟩
  rw [ha] at a0 a1 ⊢
  have m1 : ((a : Int) % (ten (i + 1) : Int)) = ((a % ten (i + 1) : Nat) : Int) := by omega
  have d1 : ((a : Int) / (ten (i + 1) : Int)) = ((a / ten (i + 1) : Nat) : Int) := by omega
  have l1 : a % ten (i + 1) < ten (i + 1) := Nat.mod_lt _ t0
  have l2 : a / ten (i + 1) ≤ a := Nat.div_le_self _ _
  have s1 : (((a % ten (i + 1) : Nat) : Int) + (ten (i + 1) : Int)) = ((a % ten (i + 1) + ten (i + 1) : Nat) : Int) := by omega
  refine ⟨a0, a1, by omega, by omega, by rw [d1]; exact Int.natCast_nonneg _, by rw [d1]; have l3 : a / ten (i + 1) ≤ 1000000000 := Nat.le_trans l2 (by omega); generalize a / ten (i + 1) = y at l3 ⊢; omega, by rw [m1]; exact Int.natCast_nonneg _, by rw [m1]; exact Int.ofNat_lt.2 l1, Int.tdiv_eq_ediv_of_nonneg a0, Int.tmod_eq_emod_of_nonneg a0, ?_, ?_, ?_⟩
  · rw [m1]; exact pad_len _ _ l1
  · rw [m1, s1]; exact above_len _ _ l1
  · rw [m1, s1]; exact rest_pad _ _ l1

theorem l02Fixed_any (n : Int) (k : Nat) (h1 : -1000000000 ≤ n) (h2 : n ≤ 1000000000) (hk1 : 1 ≤ k) (hk2 : k ≤ 6) (w : World) :
    Calls Tryd.prog 52 #[.int .i64 n, .int .i64 (k : Int)] w fun e w' => e = .returned (.string (fixedQ n k)) ∧ Below w.heap.size w w' := by
  obtain ⟨a0, a1, t1, t2, d0, d1, r0, r1, td, tm, zs1, rs1, hx⟩ := abs_parts h1 h2 hk1 hk2
  have b : Below w.heap.size w w := Below.refl _ _
  unfold fixedQ
  by_cases hneg : n < 0
  · have e1 : sgn n = ⟨#[45]⟩ := if_pos hneg
    have e0 : absI n = -n := by unfold absI; rw [if_pos hneg]
    rw [e1]
    generalize hA : absI n = A at *
    obtain rfl : n = -A := by omega
    clear e0 e1 hA
    have HT := Lib.hid (fun W => l02Ten_any k hk2 W)
    have HR := Lib.hid (fun W => specDec_any (A % (ten k : Int) + (ten k : Int)) (by omega) (by omega) W)
    have HD := Lib.hid (fun W => specDec_any (A / (ten k : Int)) (by omega) (by omega) W)
    have sd := dec_size (n := A / (ten k : Int)) (by omega) (by omega)
    have k1 : IntKind.i64.wrap (A % (ten k : Int) + (ten k : Int)) = A % (ten k : Int) + (ten k : Int) := IntWalk.i64_in _ (by omega)
    have k2 : IntKind.i64.wrap (A / (ten k : Int)) = A / (ten k : Int) := IntWalk.i64_in _ (by omega)
    have hlt : -A < 0 := by omega
    have nn : - -A = A := by omega
    generalize dec (A % (ten k : Int) + (ten k : Int)) = R at *
    generalize dec (A / (ten k : Int)) = D at *
    generalize pad (A % (ten k : Int)) (k : Int) = Z at *
    generalize A / (ten k : Int) = q at *
    generalize A % (ten k : Int) = r at *
    generalize (ten k : Int) = U at *
    have hR1 : (1 : Int) ≤ (R.size : Int) := by omega
    have hR2 : 1 ≤ R.size := by omega
    have c0 : ¬ U = 0 := by omega
    obtain ⟨P1, hP1⟩ : ∃ P1, P1 = ⟨#[45]⟩ ++ D := ⟨_, rfl⟩
    rw [← hP1]
    have z1 : P1.size ≤ 22 := by rw [hP1, ByteArray.size_append]; show 1 + D.size ≤ 22; omega
    have A1 : ∀ W, (Op.stringOp .add ⟨#[45]⟩ D).run Tryd.prog W = .ok (.string P1) W := fun W => by rw [hP1]; exact run_string_add_sum W _ _ (by show 1 + D.size ≤ _; omega)
    obtain ⟨P2, hP2⟩ : ∃ P2, P2 = P1 ++ ⟨#[46]⟩ := ⟨_, rfl⟩
    rw [← hP2]
    have z2 : P2.size ≤ 23 := by rw [hP2, ByteArray.size_append]; show P1.size + 1 ≤ 23; omega
    have A2 : ∀ W, (Op.stringOp .add P1 ⟨#[46]⟩).run Tryd.prog W = .ok (.string P2) W := fun W => by rw [hP2]; exact run_string_add_sum W _ _ (by show P1.size + 1 ≤ _; omega)
    obtain ⟨P3, hP3⟩ : ∃ P3, P3 = P2 ++ Z := ⟨_, rfl⟩
    rw [← hP3]
    have A3 : ∀ W, (Op.stringOp .add P2 Z).run Tryd.prog W = .ok (.string P3) W := fun W => by rw [hP3]; exact run_string_add_sum W _ _ (by omega)
    clear hP1 hP2 hP3 z1 z2 sd zs1 rs1 d0 d1 h1 h2 hk1 hk2
    go_enter Tryd.func52, Tryd.ntmps52
    go_wp2_with fail
    refine (HT.out _).mono ?_
    rintro e w1 ⟨rfl, rfl⟩
    go_wp2_with fail
    refine (HR.out _).mono ?_
    rintro e w2 ⟨rfl, hc⟩
    have b := b.trans (hc.mono b.size)
    clear hc
    go_wp2_with fail
    go_region_held3 (fun w' => Below w.heap.size w w') (first | exact Below.drew b | (go_split_ands; assumption) | exact keepB (by assumption) (by assumption)) (first | (go_at_call 32; refine (HD.out _).mono ?_; rintro e w3 ⟨rfl, hb3⟩))
    go_wp2
    go_ret
    exact ⟨rfl, by assumption⟩
  · have e1 : sgn n = ⟨#[]⟩ := if_neg hneg
    have e0 : absI n = n := by unfold absI; rw [if_neg hneg]
    rw [e1]
    generalize hA : absI n = A at *
    obtain rfl : A = n := by omega
    clear e0 e1 hA
    have HT := Lib.hid (fun W => l02Ten_any k hk2 W)
    have HR := Lib.hid (fun W => specDec_any (A % (ten k : Int) + (ten k : Int)) (by omega) (by omega) W)
    have HD := Lib.hid (fun W => specDec_any (A / (ten k : Int)) (by omega) (by omega) W)
    have sd := dec_size (n := A / (ten k : Int)) (by omega) (by omega)
    have k1 : IntKind.i64.wrap (A % (ten k : Int) + (ten k : Int)) = A % (ten k : Int) + (ten k : Int) := IntWalk.i64_in _ (by omega)
    have k2 : IntKind.i64.wrap (A / (ten k : Int)) = A / (ten k : Int) := IntWalk.i64_in _ (by omega)
    have hlt : ¬ A < 0 := by omega
    generalize dec (A % (ten k : Int) + (ten k : Int)) = R at *
    generalize dec (A / (ten k : Int)) = D at *
    generalize pad (A % (ten k : Int)) (k : Int) = Z at *
    generalize A / (ten k : Int) = q at *
    generalize A % (ten k : Int) = r at *
    generalize (ten k : Int) = U at *
    have hR1 : (1 : Int) ≤ (R.size : Int) := by omega
    have hR2 : 1 ≤ R.size := by omega
    have c0 : ¬ U = 0 := by omega
    obtain ⟨P1, hP1⟩ : ∃ P1, P1 = ⟨#[]⟩ ++ D := ⟨_, rfl⟩
    rw [← hP1]
    have z1 : P1.size ≤ 22 := by rw [hP1, ByteArray.size_append]; show 0 + D.size ≤ 22; omega
    have A1 : ∀ W, (Op.stringOp .add ⟨#[]⟩ D).run Tryd.prog W = .ok (.string P1) W := fun W => by rw [hP1]; exact run_string_add_sum W _ _ (by show 0 + D.size ≤ _; omega)
    obtain ⟨P2, hP2⟩ : ∃ P2, P2 = P1 ++ ⟨#[46]⟩ := ⟨_, rfl⟩
    rw [← hP2]
    have z2 : P2.size ≤ 23 := by rw [hP2, ByteArray.size_append]; show P1.size + 1 ≤ 23; omega
    have A2 : ∀ W, (Op.stringOp .add P1 ⟨#[46]⟩).run Tryd.prog W = .ok (.string P2) W := fun W => by rw [hP2]; exact run_string_add_sum W _ _ (by show P1.size + 1 ≤ _; omega)
    obtain ⟨P3, hP3⟩ : ∃ P3, P3 = P2 ++ Z := ⟨_, rfl⟩
    rw [← hP3]
    have A3 : ∀ W, (Op.stringOp .add P2 Z).run Tryd.prog W = .ok (.string P3) W := fun W => by rw [hP3]; exact run_string_add_sum W _ _ (by omega)
    clear hP1 hP2 hP3 z1 z2 sd zs1 rs1 d0 d1 h1 h2 hk1 hk2
    go_enter Tryd.func52, Tryd.ntmps52
    go_wp2_with fail
    refine (HT.out _).mono ?_
    rintro e w1 ⟨rfl, rfl⟩
    go_wp2_with fail
    refine (HR.out _).mono ?_
    rintro e w2 ⟨rfl, hc⟩
    have b := b.trans (hc.mono b.size)
    clear hc
    go_wp2_with fail
    go_region_held3 (fun w' => Below w.heap.size w w') (first | exact Below.drew b | (go_split_ands; assumption) | exact keepB (by assumption) (by assumption)) (first | (go_at_call 32; refine (HD.out _).mono ?_; rintro e w3 ⟨rfl, hb3⟩))
    go_wp2
    go_ret
    exact ⟨rfl, by assumption⟩

def fixedP (n p : Int) : ByteArray := if inB n (-1000000000) 1000000000 = true ∧ inB p 1 6 = true then fixedQ n p.toNat else ⟨#[]⟩
theorem whole_any (n : Int) (w : World) : Calls Tryd.prog 50 #[.int .i64 n] w fun e w' => e = .returned (.bool (inB n (-1000000000) 1000000000)) ∧ w = w' := by
  go_enter Tryd.func50, Tryd.ntmps50
  go_wp2_with (go_at_call 43; refine (in_any _ _ _ _).mono ?_; rintro e w' ⟨rfl, rfl⟩)
  go_ret
  exact ⟨rfl, rfl⟩
theorem places_any (n : Int) (w : World) : Calls Tryd.prog 51 #[.int .i64 n] w fun e w' => e = .returned (.bool (inB n 1 6)) ∧ w = w' := by
  go_enter Tryd.func51, Tryd.ntmps51
  go_wp2_with (go_at_call 43; refine (in_any _ _ _ _).mono ?_; rintro e w' ⟨rfl, rfl⟩)
  go_ret
  exact ⟨rfl, rfl⟩

theorem specFixedText_any (n : Int) (_ : -9223372036854775808 ≤ n) (_ : n ≤ 9223372036854775807) (p : Int) (_ : -9223372036854775808 ≤ p) (_ : p ≤ 9223372036854775807) (w : World) :
    Calls Tryd.prog 26 #[.int .i64 n, .int .i64 p] w fun e w' => e = .returned (.string (fixedP n p)) ∧ Below w.heap.size w w' := by
  have HW := Lib.hid (fun W => whole_any n W)
  have HP := Lib.hid (fun W => places_any p W)
  have b : Below w.heap.size w w := Below.refl _ _
  unfold fixedP
  by_cases c1 : inB n (-1000000000) 1000000000 = true
  · by_cases c2 : inB p 1 6 = true
    · rw [if_pos ⟨c1, c2⟩]
      rw [c1] at HW
      rw [c2] at HP
      obtain ⟨n1, n2⟩ := inB_iff.1 c1
      obtain ⟨p1, p2⟩ := inB_iff.1 c2
      clear c1 c2
      obtain ⟨k, rfl⟩ : ∃ k : Nat, p = k := ⟨p.toNat, by omega⟩
      rw [Int.toNat_natCast]
      have hk1 : 1 ≤ k := by omega
      have hk2 : k ≤ 6 := by omega
      have HF := Lib.hid (fun W => l02Fixed_any n k n1 n2 hk1 hk2 W)
      clear p1 p2 hk1 hk2 n1 n2
      go_enter Tryd.func26, Tryd.ntmps26
      go_wp2_with fail
      refine (HW.out _).mono ?_
      rintro e w1 ⟨rfl, rfl⟩
      go_wp2_with fail
      refine (HP.out _).mono ?_
      rintro e w2 ⟨rfl, rfl⟩
      go_wp2_with fail
      refine (HF.out _).mono ?_
      rintro e w3 ⟨rfl, hc⟩
      have b := b.trans (hc.mono b.size)
      clear hc
      go_wp2_with fail
      go_ret
      exact ⟨rfl, b⟩
    · rw [if_neg (fun h => c2 h.2)]
      have c2 := Bool.eq_false_iff.2 c2
      rw [c1] at HW
      rw [c2] at HP
      clear c1 c2
      go_enter Tryd.func26, Tryd.ntmps26
      go_wp2_with fail
      refine (HW.out _).mono ?_
      rintro e w1 ⟨rfl, rfl⟩
      go_wp2_with fail
      refine (HP.out _).mono ?_
      rintro e w2 ⟨rfl, rfl⟩
      go_wp2_with fail
      go_ret
      exact ⟨rfl, b⟩
  · rw [if_neg (fun h => c1 h.1)]
    have c1 := Bool.eq_false_iff.2 c1
    rw [c1] at HW
    clear c1
    go_enter Tryd.func26, Tryd.ntmps26
    go_wp2_with fail
    refine (HW.out _).mono ?_
    rintro e w1 ⟨rfl, rfl⟩
    go_wp2_with fail
    go_ret
    exact ⟨rfl, b⟩

theorem implFixedText_any (n : Int) (_ : -9223372036854775808 ≤ n) (_ : n ≤ 9223372036854775807) (p : Int) (_ : -9223372036854775808 ≤ p) (_ : p ≤ 9223372036854775807) (w : World) (ht : Tab w) :
    Calls Tryd.prog 27 #[.int .i64 n, .int .i64 p] w fun e w' => e = .returned (.string (fixedP n p)) ∧ Below w.heap.size w w' := by
  have HW := Lib.hid (fun W => within_any n (-1000000000) 1000000000 W)
  have HP := Lib.hid (fun W => within_any p 1 6 W)
  have b : Below w.heap.size w w := Below.refl _ _
  unfold fixedP
  by_cases c1 : inB n (-1000000000) 1000000000 = true
  · by_cases c2 : inB p 1 6 = true
    · rw [if_pos ⟨c1, c2⟩]
      rw [c1] at HW
      rw [c2] at HP
      obtain ⟨n1, n2⟩ := inB_iff.1 c1
      obtain ⟨p1, p2⟩ := inB_iff.1 c2
      clear c1 c2
      obtain ⟨k, rfl⟩ : ∃ k : Nat, p = k := ⟨p.toNat, by omega⟩
      rw [Int.toNat_natCast]
      have hk1 : 1 ≤ k := by omega
      have hk2 : k ≤ 6 := by omega
      obtain ⟨a0, a1, t1, t2, d0, d1, r0, r1, td, tm, zs1, rs1, hx⟩ := abs_parts n1 n2 hk1 hk2
      by_cases hneg : n < 0
      · have HAB := Lib.hid (fun W => abs_any n (by omega) W)
        have e1 : sgn n = ⟨#[45]⟩ := if_pos hneg
        have e0 : absI n = -n := by unfold absI; rw [if_pos hneg]
        unfold fixedQ
        rw [e1]
        generalize hA : absI n = A at *
        obtain rfl : n = -A := by omega
        clear e0 e1 hA
        have HD := Lib.hid (fun W (hb : Below w.heap.size w W) => implDecimal_any (A / (ten k : Int)) (by omega) (by omega) W (ht.below hb))
        have HZ := Lib.hid (fun W (hb : Below w.heap.size w W) => padded_any (A % (ten k : Int)) (by omega) (by omega) (k : Int) (by omega) (by omega) W (ht.below hb))
        have sd := dec_size (n := A / (ten k : Int)) (by omega) (by omega)
        have hlt : -A < 0 := by omega
        clear ht hx rs1
        obtain ⟨Z, hZ⟩ : ∃ Z, Z = pad (A % (ten k : Int)) (k : Int) := ⟨_, rfl⟩
        rw [← hZ] at HZ zs1 ⊢
        obtain ⟨D, hD⟩ : ∃ D, D = dec (A / (ten k : Int)) := ⟨_, rfl⟩
        rw [← hD] at HD sd ⊢
        clear hZ hD
        have XD := Lib.hid (⟨td, tm, t1, t2, d0, d1, r0, r1, sd, zs1⟩ : _ ∧ _ ∧ _ ∧ _ ∧ _ ∧ _ ∧ _ ∧ _ ∧ _ ∧ _)
        clear td tm t1 t2 d0 d1 r0 r1 sd zs1
        go_enter Tryd.func27, Tryd.ntmps27
        go_wp2_with fail
        refine (HW.out _).mono ?_
        rintro e w1 ⟨rfl, rfl⟩
        go_wp2_with fail
        refine (HP.out _).mono ?_
        rintro e w2 ⟨rfl, rfl⟩
        go_wp2_with fail
        go_loopw [5, 16] (fun v i wr => ∃ j : Nat, j ≤ k ∧ i = .int .i64 (j : Int) ∧ v = .int .i64 (ten j : Int) ∧ wr = w) (fun _ i _ => ((k : Int) - intOf i).toNat)
        case atStart => exact ⟨0, by omega, rfl, rfl, rfl⟩
        case round =>
          obtain ⟨j, hj, rfl, rfl, rfl⟩ := hrel
          by_cases hlt2 : j < k
          · have h1 := ten_le (k := j) (by omega)
            have HS := Lib.hid (ten_succ j)
            generalize ten j = t at *
            go_wp2
            go_roundw
            case rel => exact ⟨j + 1, by omega, val64 (by omega), val64 (by rw [HS.out]; omega), by trivial⟩
            case measure => simp [intOf]; omega
          · have e : j = k := by omega
            rw [e]
            have hnlt : ¬ (k : Int) < (k : Int) := by omega
            clear e hj hlt2
            obtain ⟨td, tm, t1, t2, d0, d1, r0, r1, sd, zs1⟩ := XD.out
            generalize A / (ten k : Int) = q at *
            generalize A % (ten k : Int) = r at *
            generalize (ten k : Int) = U at *
            have c0 : ¬ U = 0 := by omega
            go_wp2_with fail
            refine (HAB.out _).mono ?_
            rintro e w3 ⟨rfl, rfl⟩
            go_wp2_with fail
            refine (HD.out _ b).mono ?_
            rintro e w4 ⟨rfl, hc⟩
            have b := b.trans (hc.mono b.size)
            clear hc
            go_wp2_with fail
            refine (HAB.out _).mono ?_
            rintro e w5 ⟨rfl, rfl⟩
            go_wp2_with fail
            refine (HZ.out _ b).mono ?_
            rintro e w6 ⟨rfl, hc⟩
            have b := b.trans (hc.mono b.size)
            clear hc
            go_wp2_with fail
            go_ret
            exact ⟨rfl, b⟩
      · have HAB := Lib.hid (fun W => abs_any n (by omega) W)
        have e1 : sgn n = ⟨#[]⟩ := if_neg hneg
        have e0 : absI n = n := by unfold absI; rw [if_neg hneg]
        unfold fixedQ
        rw [e1]
        generalize hA : absI n = A at *
        obtain rfl : A = n := by omega
        clear e0 e1 hA
        have HD := Lib.hid (fun W (hb : Below w.heap.size w W) => implDecimal_any (A / (ten k : Int)) (by omega) (by omega) W (ht.below hb))
        have HZ := Lib.hid (fun W (hb : Below w.heap.size w W) => padded_any (A % (ten k : Int)) (by omega) (by omega) (k : Int) (by omega) (by omega) W (ht.below hb))
        have sd := dec_size (n := A / (ten k : Int)) (by omega) (by omega)
        have hlt : ¬ A < 0 := by omega
        clear ht hx rs1
        obtain ⟨Z, hZ⟩ : ∃ Z, Z = pad (A % (ten k : Int)) (k : Int) := ⟨_, rfl⟩
        rw [← hZ] at HZ zs1 ⊢
        obtain ⟨D, hD⟩ : ∃ D, D = dec (A / (ten k : Int)) := ⟨_, rfl⟩
        rw [← hD] at HD sd ⊢
        clear hZ hD
        have XD := Lib.hid (⟨td, tm, t1, t2, d0, d1, r0, r1, sd, zs1⟩ : _ ∧ _ ∧ _ ∧ _ ∧ _ ∧ _ ∧ _ ∧ _ ∧ _ ∧ _)
        clear td tm t1 t2 d0 d1 r0 r1 sd zs1
        go_enter Tryd.func27, Tryd.ntmps27
        go_wp2_with fail
        refine (HW.out _).mono ?_
        rintro e w1 ⟨rfl, rfl⟩
        go_wp2_with fail
        refine (HP.out _).mono ?_
        rintro e w2 ⟨rfl, rfl⟩
        go_wp2_with fail
        go_loopw [5, 16] (fun v i wr => ∃ j : Nat, j ≤ k ∧ i = .int .i64 (j : Int) ∧ v = .int .i64 (ten j : Int) ∧ wr = w) (fun _ i _ => ((k : Int) - intOf i).toNat)
        case atStart => exact ⟨0, by omega, rfl, rfl, rfl⟩
        case round =>
          obtain ⟨j, hj, rfl, rfl, rfl⟩ := hrel
          by_cases hlt2 : j < k
          · have h1 := ten_le (k := j) (by omega)
            have HS := Lib.hid (ten_succ j)
            generalize ten j = t at *
            go_wp2
            go_roundw
            case rel => exact ⟨j + 1, by omega, val64 (by omega), val64 (by rw [HS.out]; omega), by trivial⟩
            case measure => simp [intOf]; omega
          · have e : j = k := by omega
            rw [e]
            have hnlt : ¬ (k : Int) < (k : Int) := by omega
            clear e hj hlt2
            obtain ⟨td, tm, t1, t2, d0, d1, r0, r1, sd, zs1⟩ := XD.out
            generalize A / (ten k : Int) = q at *
            generalize A % (ten k : Int) = r at *
            generalize (ten k : Int) = U at *
            have c0 : ¬ U = 0 := by omega
            go_wp2_with fail
            refine (HAB.out _).mono ?_
            rintro e w3 ⟨rfl, rfl⟩
            go_wp2_with fail
            refine (HD.out _ b).mono ?_
            rintro e w4 ⟨rfl, hc⟩
            have b := b.trans (hc.mono b.size)
            clear hc
            go_wp2_with fail
            refine (HAB.out _).mono ?_
            rintro e w5 ⟨rfl, rfl⟩
            go_wp2_with fail
            refine (HZ.out _ b).mono ?_
            rintro e w6 ⟨rfl, hc⟩
            have b := b.trans (hc.mono b.size)
            clear hc
            go_wp2_with fail
            go_ret
            exact ⟨rfl, b⟩
    · rw [if_neg (fun h => c2 h.2)]
      have c2 := Bool.eq_false_iff.2 c2
      rw [c1] at HW
      rw [c2] at HP
      clear c1 c2 ht
      go_enter Tryd.func27, Tryd.ntmps27
      go_wp2_with fail
      refine (HW.out _).mono ?_
      rintro e w1 ⟨rfl, rfl⟩
      go_wp2_with fail
      refine (HP.out _).mono ?_
      rintro e w2 ⟨rfl, rfl⟩
      go_wp2_with fail
      go_ret
      exact ⟨rfl, b⟩
  · rw [if_neg (fun h => c1 h.1)]
    have c1 := Bool.eq_false_iff.2 c1
    rw [c1] at HW
    clear c1 ht
    go_enter Tryd.func27, Tryd.ntmps27
    go_wp2_with fail
    refine (HW.out _).mono ?_
    rintro e w1 ⟨rfl, rfl⟩
    go_wp2_with fail
    go_ret
    exact ⟨rfl, b⟩

end Go.Proofs.YtgjbpjpcihifnaaDoor.TxtE

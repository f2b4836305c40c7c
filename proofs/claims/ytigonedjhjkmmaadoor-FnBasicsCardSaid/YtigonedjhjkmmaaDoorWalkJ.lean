/- The walks of names of codes and of lines through two points, program and reference. -/
import Derived.Test.YtigonedjhjkmmaaDoorWalkC
namespace Go.Proofs.YtigonedjhjkmmaaDoor.WalkJ
open Go.RowKit Go.Proofs.YtigonedjhjkmmaaDoor.Plain Go.Proofs.YtigonedjhjkmmaaDoor.WalkA Go.Proofs.YtigonedjhjkmmaaDoor.WalkB Go.Proofs.YtigonedjhjkmmaaDoor.WalkC

/-- The name of a code. -/
def codeS (n : Int) : ByteArray :=
  if n = 0 then ⟨#[111, 107]⟩ else if n = 1 then ⟨#[105, 110, 118, 97, 108, 105, 100]⟩ else if n = 2 then ⟨#[114, 97, 110, 103, 101]⟩ else if n = 3 then ⟨#[110, 111, 116, 45, 102, 111, 117, 110, 100]⟩
  else if n = 4 then ⟨#[101, 120, 105, 115, 116, 115]⟩ else if n = 5 then ⟨#[102, 117, 108, 108]⟩ else if n = 6 then ⟨#[115, 116, 97, 116, 101]⟩ else if n = 7 then ⟨#[111, 114, 100, 101, 114]⟩
  else if n = 8 then ⟨#[115, 121, 110, 116, 97, 120]⟩ else if n = 9 then ⟨#[102, 111, 114, 109, 97, 116]⟩ else if n = 10 then ⟨#[99, 104, 101, 99, 107, 115, 117, 109]⟩ else if n = 11 then ⟨#[116, 114, 117, 110, 99, 97, 116, 101, 100]⟩ else ⟨#[]⟩
theorem ret_string {a b : ByteArray} (h : a = b) : Ending.returned (.string a) = .returned (.string b) := by rw [h]
theorem codeS_out {n : Int} (h : ¬ (0 ≤ n ∧ n ≤ 11)) : codeS n = ⟨#[]⟩ := by
  unfold codeS
  repeat rw [if_neg (by omega)]
theorem codes {n : Int} (h1 : 0 ≤ n) (h2 : n ≤ 11) : n = 0 ∨ n = 1 ∨ n = 2 ∨ n = 3 ∨ n = 4 ∨ n = 5 ∨ n = 6 ∨ n = 7 ∨ n = 8 ∨ n = 9 ∨ n = 10 ∨ n = 11 := by omega

theorem prod_bd {p q : Int} (hp : -2000000 ≤ p ∧ p ≤ 2000000) (hq : 0 ≤ q ∧ q ≤ 2000000) : -4000000000000 ≤ p * q ∧ p * q ≤ 4000000000000 := by
  have h1 : p * q ≤ 2000000 * q := Int.mul_le_mul_of_nonneg_right hp.2 hq.1
  have h2 : -2000000 * q ≤ p * q := Int.mul_le_mul_of_nonneg_right hp.1 hq.1
  omega
theorem lineI_left {x0 y0 x1 y1 x : Int} (h : x ≤ x0) : lineI x0 y0 x1 y1 x = y0 := by unfold lineI; rw [if_pos (.inl h)]
theorem lineI_flat {x0 y0 x1 y1 x : Int} (h : x1 ≤ x0) : lineI x0 y0 x1 y1 x = y0 := by unfold lineI; rw [if_pos (.inr h)]
theorem lineI_right {x0 y0 x1 y1 x : Int} (h : ¬ x ≤ x0) (k : ¬ x1 ≤ x0) (l : x1 ≤ x) : lineI x0 y0 x1 y1 x = y1 := by unfold lineI; rw [if_neg (by omega), if_pos l]
theorem lineI_mid {x0 y0 x1 y1 x : Int} (h : ¬ x ≤ x0) (k : ¬ x1 ≤ x0) (l : ¬ x1 ≤ x) : lineI x0 y0 x1 y1 x = y0 + divR ((y1 - y0) * (x - x0)) (x1 - x0) := by unfold lineI; rw [if_neg (by omega), if_neg l]
def small6 (n : Int) : Prop := -1000000 ≤ n ∧ n ≤ 1000000
theorem mid_bd {a b : Int} (ha : -4000000000000 ≤ a ∧ a ≤ 4000000000000) (hb : b ≠ 0) : -4000000000000 ≤ divR a b ∧ divR a b ≤ 4000000000000 := by
  have h1 := divR_bound (a := a) hb
  have h2 : absI a ≤ 4000000000000 := by unfold absI; split <;> omega
  omega
theorem implLine_any (x0 y0 x1 y1 x : Int) (hx0 : small6 x0) (hy0 : small6 y0) (hx1 : small6 x1) (hy1 : small6 y1) (w : World) :
    Calls Tryd.prog 22 #[.int .i64 x0, .int .i64 y0, .int .i64 x1, .int .i64 y1, .int .i64 x] w fun e w' => e = .returned (.int .i64 (lineI x0 y0 x1 y1 x)) ∧ Drew w w' := by
  obtain ⟨a1, a2⟩ := hx0
  obtain ⟨b1, b2⟩ := hy0
  obtain ⟨c1, c2⟩ := hx1
  obtain ⟨d1, d2⟩ := hy1
  by_cases h : x ≤ x0
  · have HE := Lib.hid (lineI_left (y0 := y0) (x1 := x1) (y1 := y1) h)
    go_enter Tryd.func22, Tryd.ntmps22
    go_wp2
    go_ret
    exact ⟨ret_int HE.out.symm, Drew.refl _⟩
  by_cases k : x1 ≤ x0
  · have HE := Lib.hid (lineI_flat (y0 := y0) (x := x) (y1 := y1) k)
    go_enter Tryd.func22, Tryd.ntmps22
    go_wp2
    go_ret
    exact ⟨ret_int HE.out.symm, Drew.refl _⟩
  by_cases l : x1 ≤ x
  · have HE := Lib.hid (lineI_right (y0 := y0) (y1 := y1) h k l)
    go_enter Tryd.func22, Tryd.ntmps22
    go_wp2
    go_ret
    exact ⟨ret_int HE.out.symm, Drew.refl _⟩
  · have HE := Lib.hid (lineI_mid (y0 := y0) (y1 := y1) h k l)
    have hp := prod_bd (p := y1 - y0) (q := x - x0) (by omega) (by omega)
    have hm := mid_bd (a := (y1 - y0) * (x - x0)) (b := x1 - x0) hp (by omega)
    obtain ⟨p1, p2⟩ := hp
    obtain ⟨m1, m2⟩ := hm
    go_enter Tryd.func22, Tryd.ntmps22
    go_wp2_with (go_at_call 19; refine (nearest_any _ _ (by omega) (by omega) (by omega) _).mono ?_; rintro e w1 ⟨rfl, hd⟩)
    go_ret
    exact ⟨ret_int HE.out.symm, hd⟩
def fourB (x0 y0 x1 y1 : Int) : Bool := inB x0 (-1000000) 1000000 && (inB y0 (-1000000) 1000000 && (inB x1 (-1000000) 1000000 && inB y1 (-1000000) 1000000))
def blendI (x0 y0 x1 y1 x : Int) : Int := valI (fourB x0 y0 x1 y1) (lineI x0 y0 x1 y1 x)
theorem blendI_no {x0 y0 x1 y1 x : Int} (h : fourB x0 y0 x1 y1 = false) : (0 : Int) = blendI x0 y0 x1 y1 x := by simp [blendI, valI, h]
theorem blendI_ok {x0 y0 x1 y1 x : Int} (h : fourB x0 y0 x1 y1 = true) : lineI x0 y0 x1 y1 x = blendI x0 y0 x1 y1 x := by simp [blendI, valI, h]
theorem fourB_all {x0 y0 x1 y1 : Int} (h : fourB x0 y0 x1 y1 = true) : inB x0 (-1000000) 1000000 = true ∧ inB y0 (-1000000) 1000000 = true ∧ inB x1 (-1000000) 1000000 = true ∧ inB y1 (-1000000) 1000000 = true := by
  simpa [fourB] using h

/-- The number at a place of the list that the program checks. -/
def four (x0 y0 x1 y1 : Int) (k : Nat) : Int := if k = 0 then x0 else if k = 1 then y0 else if k = 2 then x1 else y1
theorem four_no {x0 y0 x1 y1 : Int} {k : Nat} (hk : k < 4) (h : inB (four x0 y0 x1 y1 k) (-1000000) 1000000 = false) : fourB x0 y0 x1 y1 = false := by
  have : k = 0 ∨ k = 1 ∨ k = 2 ∨ k = 3 := by omega
  rcases this with rfl | rfl | rfl | rfl <;> (simp [four] at h; simp [fourB, h])
theorem four_ok {x0 y0 x1 y1 : Int} (h : ∀ k : Nat, k < 4 → inB (four x0 y0 x1 y1 k) (-1000000) 1000000 = true) : fourB x0 y0 x1 y1 = true := by
  have a := h 0 (by omega)
  have b := h 1 (by omega)
  have c := h 2 (by omega)
  have d := h 3 (by omega)
  simp [four] at a b c d
  simp [fourB, a, b, c, d]
theorem four_cell (w : World) (x0 y0 x1 y1 : Int) (t : TypeId) (k : Nat) (hk : k < 4) : (w.alloc (.cells #[.int .i64 x0, .int .i64 y0, .int .i64 x1, .int .i64 y1] t)).cell? ⟨w.heap.size, k, none⟩ = some (.int .i64 (four x0 y0 x1 y1 k)) := by
  have : k = 0 ∨ k = 1 ∨ k = 2 ∨ k = 3 := by omega
  rcases this with rfl | rfl | rfl | rfl <;> simp [four, World.cell?, World.alloc, -World.alloc_eq]
theorem implBlend_any (x0 y0 x1 y1 x : Int) (w : World) :
    Calls Tryd.prog 10 #[.int .i64 x0, .int .i64 y0, .int .i64 x1, .int .i64 y1, .int .i64 x] w fun e w' => e = .returned (.int .i64 (blendI x0 y0 x1 y1 x)) ∧ Below w.heap.size w w' := by
  have HC := Lib.hid (fun k hk => four_cell w x0 y0 x1 y1 2 k hk)
  have HB := Lib.hid ((Below.refl w.heap.size w).alloc (Nat.le_refl _) (.cells #[.int .i64 x0, .int .i64 y0, .int .i64 x1, .int .i64 y1] 2))
  go_enter Tryd.func10, Tryd.ntmps10
  go_wp2
  generalize w.alloc (.cells #[.int .i64 x0, .int .i64 y0, .int .i64 x1, .int .i64 y1] 2) = w1 at *
  go_loop [19] (fun i => ∃ k : Nat, k ≤ 4 ∧ i = .int .i64 k ∧ Hid (∀ j : Nat, j < k → inB (four x0 y0 x1 y1 j) (-1000000) 1000000 = true)) (fun i => 4 - (intOf i).toNat)
  case atStart => exact ⟨0, by omega, rfl, fun j hj => by omega⟩
  case round =>
    obtain ⟨k, hk, rfl, hu⟩ := hrel
    by_cases hlt : k < 4
    · have hcell := HC.out k hlt
      cases hb : inB (four x0 y0 x1 y1 k) (-1000000) 1000000
      · have HE := Lib.hid (blendI_no (x := x) (four_no hlt hb))
        go_wp2_with (go_at_call 21; refine (within_any _ _ _ _).mono ?_; rintro e w' ⟨rfl, rfl⟩)
        go_ret
        exact ⟨ret_int HE.out, HB.out⟩
      · have HN : Hid (∀ j : Nat, j < k + 1 → inB (four x0 y0 x1 y1 j) (-1000000) 1000000 = true) := fun j hj => by
          by_cases e : j = k
          · rw [e]; exact hb
          · exact hu.out j (by omega)
        go_wp2_with (go_at_call 21; refine (within_any _ _ _ _).mono ?_; rintro e w' ⟨rfl, rfl⟩)
        go_round
        case rel => exact ⟨k + 1, by omega, by go_num, HN⟩
        case measure => simp [intOf]; omega
    · have hall := four_ok (fun j hj => hu.out j (by omega))
      have HE := Lib.hid (blendI_ok (x := x) hall)
      obtain ⟨k0, k1, k2, k3⟩ := fourB_all hall
      have HL := Lib.hid (fun w => implLine_any x0 y0 x1 y1 x (inB_iff.1 k0) (inB_iff.1 k1) (inB_iff.1 k2) (inB_iff.1 k3) w)
      clear hall k0 k1 k2 k3
      go_wp2_with (go_at_call 22; refine (HL.out _).mono ?_; rintro e w2 ⟨rfl, hd⟩)
      go_ret
      exact ⟨ret_int HE.out, HB.out.trans (hd.below _)⟩
end Go.Proofs.YtigonedjhjkmmaaDoor.WalkJ

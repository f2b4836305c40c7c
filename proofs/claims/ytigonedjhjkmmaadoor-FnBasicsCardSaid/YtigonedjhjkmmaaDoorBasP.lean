/- Plain facts for the law on basics. -/
import Derived.Test.YtigonedjhjkmmaaDoorWalkJ
import Derived.Test.YtigonedjhjkmmaaDoorTxtY
namespace Go.Proofs.YtigonedjhjkmmaaDoor.BasP
set_option maxRecDepth 100000
open Go.RowKit Go.Proofs.YtigonedjhjkmmaaDoor.Plain Go.Proofs.YtigonedjhjkmmaaDoor.WalkA Go.Proofs.YtigonedjhjkmmaaDoor.WalkC Go.Proofs.YtigonedjhjkmmaaDoor.WalkJ Go.Proofs.YtigonedjhjkmmaaDoor.TxtC Go.Proofs.YtigonedjhjkmmaaDoor.TxtG Go.Proofs.YtigonedjhjkmmaaDoor.TxtS Go.Proofs.YtigonedjhjkmmaaDoor.TxtN Go.Proofs.YtigonedjhjkmmaaDoor.TxtQ Go.Proofs.YtigonedjhjkmmaaDoor.TxtY Go.Lib
/-- Roots. -/
theorem root_facts {a r : Int} (h : IsRoot a r) (ha : a ≤ 3600000000) : (a < 0 → r = 0) ∧ (0 ≤ a → 0 ≤ r ∧ r ≤ 60000 ∧ r * r ≤ a ∧ a < (r + 1) * (r + 1)) := by
  refine ⟨h.1, fun h0 => ?_⟩
  obtain ⟨_, h1, h2⟩ := h
  obtain ⟨h3, h4⟩ := h2 h0
  refine ⟨h1, ?_, h3, h4⟩
  rcases Int.lt_or_le 60000 r with h5 | h5
  · exfalso
    have := Int.mul_le_mul (show (60001 : Int) ≤ r by omega) (show (60001 : Int) ≤ r by omega) (by omega) (by omega)
    omega
  · exact h5
/-- Quotients are nearest. -/
theorem near_facts {a b : Int} (hb : 1 ≤ b) : -b ≤ 2 * (a - divR a b * b) ∧ 2 * (a - divR a b * b) ≤ b := by
  rw [divR_pos (by omega)]
  unfold posR
  have e1 : ∀ x y : Int, 2 * (x * y) = 2 * y * x := fun x y => by rw [Int.mul_comm x y, Int.mul_assoc]
  by_cases h : a < 0
  · rw [if_pos h]
    have h1 := Int.mul_ediv_add_emod (b - 2 * a) (2 * b)
    have h2 := Int.emod_nonneg (b - 2 * a) (show 2 * b ≠ 0 by omega)
    have h3 := Int.emod_lt_of_pos (b - 2 * a) (show 0 < 2 * b by omega)
    have h4 := e1 (-((b - 2 * a) / (2 * b))) b
    rw [Int.mul_neg] at h4
    omega
  · rw [if_neg h]
    have h1 := Int.mul_ediv_add_emod (2 * a + b) (2 * b)
    have h2 := Int.emod_nonneg (2 * a + b) (show 2 * b ≠ 0 by omega)
    have h3 := Int.emod_lt_of_pos (2 * a + b) (show 0 < 2 * b by omega)
    have h4 := e1 ((2 * a + b) / (2 * b)) b
    omega
theorem divRound_is {a b : Int} (ha : -1000000000000 ≤ a ∧ a ≤ 1000000000000) (hb : 1 ≤ b ∧ b ≤ 5000) : divRoundI a b = divR a b := (divRound_ok (by omega) (inB_iff.2 ha) (inB_iff.2 (by omega))).symm
theorem divRound_neg {a b : Int} (ha : -1000000000000 ≤ a ∧ a ≤ 1000000000000) (hb : 1 ≤ b ∧ b ≤ 5000) : divRoundI (-a) b = -divR a b := by
  rw [divRound_is (by omega) hb, divR_neg_left (by omega)]
/-- A number between. -/
theorem between {d x : Int} (hx : 0 ≤ x ∧ x ≤ 1000) : (0 ≤ d → 0 ≤ divR (d * x) 1000 ∧ divR (d * x) 1000 ≤ d) ∧ (d ≤ 0 → d ≤ divR (d * x) 1000 ∧ divR (d * x) 1000 ≤ 0) := by
  have key : ∀ d : Int, 0 ≤ d → 0 ≤ divR (d * x) 1000 ∧ divR (d * x) 1000 ≤ d := fun d hd => by
    have h0 := Int.mul_nonneg hd hx.1
    have h1 := Int.mul_le_mul_of_nonneg_left hx.2 hd
    rw [divR_nonneg h0 (by omega)]
    omega
  refine ⟨key d, fun h => ?_⟩
  have := key (-d) (by omega)
  rw [Int.neg_mul, divR_neg_left (by omega)] at this
  omega
theorem blend_is {y z x : Int} (hy : -2500 ≤ y ∧ y ≤ 2499) (hz : -2500 ≤ z ∧ z ≤ 2499) : blendI 0 y 1000 z x = lineI 0 y 1000 z x := by
  refine (blendI_ok ?_).symm
  unfold fourB
  rw [inB_iff.2 (show (-1000000 : Int) ≤ 0 ∧ (0 : Int) ≤ 1000000 by omega), inB_iff.2 (show (-1000000 : Int) ≤ y ∧ y ≤ 1000000 by omega), inB_iff.2 (show (-1000000 : Int) ≤ 1000 ∧ (1000 : Int) ≤ 1000000 by omega), inB_iff.2 (show (-1000000 : Int) ≤ z ∧ z ≤ 1000000 by omega)]
  rfl
theorem blend_facts {y z x : Int} (hy : -2500 ≤ y ∧ y ≤ 2499) (hz : -2500 ≤ z ∧ z ≤ 2499) (hx : 0 ≤ x ∧ x ≤ 999) :
    blendI 0 y 1000 z 0 = y ∧ blendI 0 y 1000 z 1000 = z ∧ (y ≤ z → y ≤ blendI 0 y 1000 z x ∧ blendI 0 y 1000 z x ≤ z) ∧ (z ≤ y → z ≤ blendI 0 y 1000 z x ∧ blendI 0 y 1000 z x ≤ y) := by
  rw [blend_is hy hz, blend_is hy hz, blend_is hy hz]
  unfold lineI
  rw [if_pos (by omega), if_neg (by omega), if_pos (by omega)]
  refine ⟨rfl, rfl, ?_⟩
  by_cases h : x ≤ 0
  · rw [if_pos (by omega)]
    omega
  · rw [if_neg (by omega), if_neg (by omega), Int.sub_zero, Int.sub_zero]
    have := between (d := z - y) (x := x) (by omega)
    omega
/-- A text of a list gives the list. -/
theorem text_back {l : List Int} (hf : fits l = true) (h0 : 0 < l.length) : rdL (listT l) = l ∧ rlB (listT l) = true := by
  have ht := listT_eq hf h0
  obtain ⟨h1, h2⟩ := fits_iff.1 hf
  have e : split (dl (listT l)) [44] = l.map itoa := by
    rw [ht]
    refine split_join _ ?_ ?_
    · intro e
      have := congrArg List.length e
      rw [List.length_map, List.length_nil] at this
      omega
    · intro x hx
      obtain ⟨n, _, rfl⟩ := List.mem_map.1 hx
      exact sep_itoa (.inl (by decide)) n
  rw [← spl_map] at e
  have en : nums (spl (listT l) 44) = l := by
    have : nums (spl (listT l) 44) = ((spl (listT l) 44).map dl).map (fun p => (numP p).1) := by
      unfold nums num
      rw [List.map_map]
      rfl
    rw [this, e, List.map_map]
    conv => rhs; rw [← List.map_id l]
    refine List.map_congr_left fun x hx => ?_
    have := h1 x hx
    show (numP (itoa x)).1 = id x
    rw [numP_itoa x (by omega) (by omega)]
    rfl
  have hb : rdB (listT l) = true := rd_of (by rw [en])
  refine ⟨by unfold rdL; rw [if_pos hb, en], ?_⟩
  unfold rlB
  rw [hb, Bool.or_true]
theorem dec_back {n : Int} (h : -1000000000000 ≤ n ∧ n ≤ 1000000000000) : numP (dl (TxtA.dec n)) = (n, true) := by
  show numP (itoa n) = _
  exact numP_itoa n (by omega) (by omega)
end Go.Proofs.YtigonedjhjkmmaaDoor.BasP

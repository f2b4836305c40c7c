/- Plain facts for the law on bends: the greatest speed, the least cant, the least radius, the slowest bend. -/
import Derived.Test.YtmjjobfaboljpaaBlsE
import Derived.Test.YtmjjobfaboljpaaBndD
namespace Go.Proofs.Ytmjjobfaboljpaa.BdrP
open Go.RowKit Go.Proofs.Ytmjjobfaboljpaa.Plain Go.Proofs.Ytmjjobfaboljpaa.WalkA Go.Proofs.Ytmjjobfaboljpaa.WalkB Go.Proofs.Ytmjjobfaboljpaa.WalkC Go.Proofs.Ytmjjobfaboljpaa.WalkF Go.Proofs.Ytmjjobfaboljpaa.WalkH Go.Proofs.Ytmjjobfaboljpaa.BndA Go.Proofs.Ytmjjobfaboljpaa.BLaw Go.Proofs.Ytmjjobfaboljpaa.BndD Go.Proofs.Ytmjjobfaboljpaa.BndE Go.Proofs.Ytmjjobfaboljpaa.BlsA Go.Proofs.Ytmjjobfaboljpaa.BlsD Go.Proofs.Ytmjjobfaboljpaa.BlsE

theorem spd_facts {r c m : Int} (hr : 1 ≤ r) (hc : 0 ≤ c) (hm : 0 ≤ m) : 0 ≤ spdT r c m - 1 ∧ spdT r c m - 1 ≤ 20000 ∧ sideI r c (spdT r c m - 1) ≤ m ∧ (spdT r c m - 1 + 1 ≤ 20000 → m < sideI r c (spdT r c m - 1 + 1)) := by
  obtain ⟨t1, t2, t3, t4⟩ := spdT_is r c m
  have h0 : spdT r c m ≠ 0 := fun h0 => by
    have := t4 (by omega)
    rw [h0] at this
    have a := of_decide_eq_true this
    have b := sideI_zero (r := r) (c := c) (by omega) hc
    omega
  have a := of_decide_eq_false (t3 (by omega))
  refine ⟨by omega, by omega, by omega, fun h => ?_⟩
  rw [show spdT r c m - 1 + 1 = spdT r c m by omega] at h ⊢
  exact of_decide_eq_true (t4 h)
theorem spd_even {r c m : Int} (hr : 1 ≤ r) (hm : 0 ≤ m) : spdT r c 0 - 1 ≤ spdT r c m - 1 := by
  obtain ⟨t1, t2, t3, t4⟩ := spdT_is r c m
  obtain ⟨u1, u2, u3, u4⟩ := spdT_is r c 0
  rcases Int.lt_or_le (spdT r c m) (spdT r c 0) with h | h
  · exfalso
    have a := of_decide_eq_true (t4 (by omega))
    have b := of_decide_eq_false (u3 (by omega))
    have d := sideI_speed (r := r) (c := c) (v := spdT r c m) (v' := spdT r c 0 - 1) (by omega) t1 (by omega)
    omega
  · omega
theorem cant_facts {r x y : Int} (h : cantN r x y < 201) : sideI r (cantN r x y) x ≤ y ∧ (0 < (cantN r x y : Int) → y < sideI r ((cantN r x y : Int) - 1) x) := by
  obtain ⟨a, b, c⟩ := cantN_is r x y
  refine ⟨of_decide_eq_true (c h), fun h0 => ?_⟩
  have := of_decide_eq_false (b (cantN r x y - 1) (by omega))
  rw [show ((cantN r x y - 1 : Nat) : Int) = (cantN r x y : Int) - 1 by omega] at this
  omega
theorem rad_facts {v c m r : Int} (h : Turn (radP v c m) 10000 10000000 r) (hr : r ≤ 10000000) : 10000 ≤ r ∧ sideI r c v ≤ m ∧ (10000 ≤ r - 1 → m < sideI (r - 1) c v) := by
  obtain ⟨t1, t2, t3, t4⟩ := h
  refine ⟨t1, of_decide_eq_true (t4 hr), fun h => ?_⟩
  have := of_decide_eq_false (t3 (by omega))
  omega
theorem slow_facts {bl : List Bnd} {x : Int} (h0 : 0 < bl.length) : slowTo bl x bl.length < bl.length ∧ ∀ i, i < bl.length → spdI bl x (slowTo bl x bl.length) ≤ spdI bl x i ∧ (i < slowTo bl x bl.length → spdI bl x (slowTo bl x bl.length) < spdI bl x i) := by
  refine ⟨slowTo_lt h0 _ (Nat.le_refl _), ?_⟩
  have main : ∀ k, ∀ i, i < k → spdI bl x (slowTo bl x k) ≤ spdI bl x i ∧ (i < slowTo bl x k → spdI bl x (slowTo bl x k) < spdI bl x i) := by
    intro k
    induction k with
    | zero => intro i hi; omega
    | succ k ih =>
      intro i hi
      by_cases h : spdI bl x k < spdI bl x (slowTo bl x k)
      · rw [slow_less h]
        by_cases e : i = k
        · subst e; exact ⟨Int.le_refl _, fun h => by omega⟩
        · have := (ih i (by omega)).1
          exact ⟨by omega, fun _ => by omega⟩
      · rw [slow_keep h]
        by_cases e : i = k
        · subst e
          refine ⟨by omega, fun hlt => ?_⟩
          exfalso
          have : slowTo bl x i ≤ i := by
            have lt : ∀ j, slowTo bl x j ≤ j := by
              intro j
              induction j with
              | zero => exact Nat.le_refl _
              | succ j ih2 =>
                by_cases h3 : spdI bl x j < spdI bl x (slowTo bl x j)
                · rw [slow_less h3]; omega
                · rw [slow_keep h3]; omega
            exact lt i
          omega
        · exact ih i (by omega)
  exact main bl.length
end Go.Proofs.Ytmjjobfaboljpaa.BdrP

/- Plain facts for the law on grinding: the greatest number of rides, places in the order of grinding. -/
import Derived.Test.YtlknncmnphbpkaaGreatDoorBndG
import Derived.Test.YtlknncmnphbpkaaGreatDoorGriA
import Derived.Test.YtlknncmnphbpkaaGreatDoorGriH
import Derived.Test.YtlknncmnphbpkaaGreatDoorBlsE
namespace Go.Proofs.YtlknncmnphbpkaaGreatDoor.GrdQ
set_option maxRecDepth 100000
open Go.RowKit Go.Proofs.YtlknncmnphbpkaaGreatDoor.Plain Go.Proofs.YtlknncmnphbpkaaGreatDoor.BndA Go.Proofs.YtlknncmnphbpkaaGreatDoor.BndC Go.Proofs.YtlknncmnphbpkaaGreatDoor.BndG Go.Proofs.YtlknncmnphbpkaaGreatDoor.GriA Go.Proofs.YtlknncmnphbpkaaGreatDoor.GriQ Go.Proofs.YtlknncmnphbpkaaGreatDoor.GriH Go.Proofs.YtlknncmnphbpkaaGreatDoor.BlsA Go.Proofs.YtlknncmnphbpkaaGreatDoor.BlsD Go.Proofs.YtlknncmnphbpkaaGreatDoor.BlsE
theorem vB_true (v : Int) : vB (true && true) v = v := rfl
/-- The greatest number of rides. -/
theorem rides_facts {r m y : Int} (hr : 1 ≤ r) (hy : 0 ≤ y) : 0 ≤ rgT r m y - 1 ∧ rgT r m y - 1 ≤ 1000000 ∧ wearI r (rgT r m y - 1) m ≤ y ∧ (rgT r m y - 1 + 1 ≤ 1000000 → y < wearI r (rgT r m y - 1 + 1) m) := by
  obtain ⟨t1, t2, t3, t4⟩ := rgT_is r m y
  have hz : wearI r 0 m = 0 := by
    unfold wearI
    rw [Int.zero_mul, Int.zero_mul]
    have := divR_nonneg (a := 0) (b := r) (by omega) (by omega)
    rw [this]
    exact Int.ediv_eq_zero_of_lt (by omega) (by omega)
  have h0 : rgT r m y ≠ 0 := fun h0 => by
    have := t4 (by omega)
    rw [h0] at this
    have a := of_decide_eq_true this
    omega
  have a := of_decide_eq_false (t3 (by omega))
  refine ⟨by omega, by omega, by omega, fun h => ?_⟩
  rw [show rgT r m y - 1 + 1 = rgT r m y by omega] at h ⊢
  exact of_decide_eq_true (t4 h)
/-! ### places in a list -/
theorem hasTo_iff {l : List Int} {x : Int} : ∀ {k : Nat}, hasTo l x k = true ↔ ∃ j, j < k ∧ GriI.iAt l j = x
  | 0 => by simp [hasTo]
  | k + 1 => by
    rw [hasTo, Bool.or_eq_true, hasTo_iff (k := k), decide_eq_true_eq]
    constructor
    · rintro (⟨j, h1, h2⟩ | h)
      · exact ⟨j, by omega, h2⟩
      · exact ⟨k, by omega, h⟩
    · rintro ⟨j, h1, h2⟩
      by_cases e : j = k
      · subst e; exact .inr h2
      · exact .inl ⟨j, by omega, h2⟩
theorem take_at {l : List Int} {i j : Nat} (h : j < i) : GriI.iAt (l.take i) j = GriI.iAt l j := by
  unfold GriI.iAt
  rw [List.getD_eq_getElem?_getD, List.getD_eq_getElem?_getD, List.getElem?_take_of_lt h]
theorem ints_take {w : World} {B : Nat} {A : Option Addr} {n i : Nat} {l : List Int} (h : GriI.Ints w B A n l) (hi : i ≤ n) : GriI.Ints w B A i (l.take i) := by
  obtain ⟨h1, h2, h3⟩ := h
  refine ⟨by rw [List.length_take]; omega, fun j hj => by rw [take_at hj]; exact h2 j (by omega), fun h0 => ?_⟩
  obtain ⟨b, off, e, hb, hc⟩ := h3 (by omega)
  exact ⟨b, off, e, hb, fun j hj => by rw [take_at hj]; exact hc j (by omega)⟩
theorem ints_drewN {W : World} {B : Nat} {A : Option Addr} {n : Nat} {l : List Int} (h : GriI.Ints W B A n l) (m : Nat) : GriI.Ints (W.drewN m) B A n l := h
theorem toI_oAt {l : List Nat} {j : Nat} (hj : j < l.length) : GriI.iAt (toI l) j = ((oAt l j : Nat) : Int) := toI_at hj
/-- What stands at a place does not stand ahead of it. -/
theorem not_ahead {f : Nat → Int} {lim : Int} {n i : Nat} (h : i < (grTo f lim n).length) : hasTo ((toI (grTo f lim n)).take i) ((oAt (grTo f lim n) i : Nat) : Int) i = false := by
  cases hh : hasTo ((toI (grTo f lim n)).take i) ((oAt (grTo f lim n) i : Nat) : Int) i
  · rfl
  · exfalso
    obtain ⟨j, h1, h2⟩ := hasTo_iff.1 hh
    rw [take_at h1, toI_oAt (by omega)] at h2
    exact grTo_once h h1 (by omega)
/-- Which bends stand in the order. -/
theorem has_order {f : Nat → Int} {lim : Int} {n i : Nat} (hi : i < n) : hasTo (toI (grTo f lim n)) (i : Int) (grTo f lim n).length = decide (lim < f i) := by
  have h1 : hasTo (toI (grTo f lim n)) (i : Int) (grTo f lim n).length = true ↔ lim < f i := by
    rw [hasTo_iff]
    constructor
    · rintro ⟨j, h1, h2⟩
      rw [toI_oAt h1] at h2
      have e : oAt (grTo f lim n) j = i := by omega
      have := oAt_mem h1
      rw [e] at this
      exact ((grTo_iff f lim i n).1 this).2
    · intro h
      obtain ⟨j, hj, e⟩ := List.getElem_of_mem ((grTo_iff f lim i n).2 ⟨hi, h⟩)
      exact ⟨j, hj, by rw [toI_oAt hj, oAt_is hj, e]⟩
  cases hh : hasTo (toI (grTo f lim n)) (i : Int) (grTo f lim n).length
  · rw [hh] at h1
    symm
    exact decide_eq_false fun h => by cases h1.2 h
  · symm
    exact decide_eq_true (h1.1 hh)
theorem order_at {f : Nat → Int} {lim : Int} {n i : Nat} (h : i < (grTo f lim n).length) : oAt (grTo f lim n) i < n ∧ lim < f (oAt (grTo f lim n) i) := (grTo_iff f lim _ n).1 (oAt_mem h)
/-- The wear of a bend, in bounds. -/
theorem fW_bd {bl : List Bnd} {a m : Int} (h : listB bl = true) (ha : 0 ≤ a ∧ a ≤ 1000000) (hm : 0 ≤ m ∧ m ≤ 100000) (i : Nat) (hi : i < bl.length) : 0 ≤ fW bl a m i := by
  obtain ⟨h1, _⟩ := listB_bd h i hi
  unfold fW wearI
  have e := Int.mul_nonneg ha.1 hm.1
  rw [divR_nonneg (by omega) (by omega)]
  exact Int.ediv_nonneg (by omega) (by omega)
/-- The order as it lies in memory. -/
theorem order_form {W : World} {B q : Nat} {v : Value} {L : List Nat} (h : GriI.OwnI W B v (toI L)) (hq : q = L.length) (hz : ∀ j, j < q → oAt L j < 1048576) : ∃ A c, v = .slice A q c ∧ GriI.Ints W W.heap.size A q (toI L) ∧ (0 < q → ∃ g, A = some ⟨g, 0, none⟩ ∧ q ≤ c ∧ g < W.heap.size ∧ ∀ j, j < q → W.cell? ⟨g, j, none⟩ = some (.int .i64 ((oAt L j : Nat) : Int))) := by
  subst hq
  have hin : ∀ j, j < L.length → -9223372036854775808 ≤ GriI.iAt (toI L) j ∧ GriI.iAt (toI L) j ≤ 9223372036854775807 := fun j hj => by
    rw [toI_oAt hj]
    have := hz j hj
    omega
  rcases Nat.eq_zero_or_pos L.length with h0 | h0
  · rcases h.2 with ⟨rfl, _⟩ | ⟨g, cap, _, rfl, _⟩
    · exact ⟨none, 0, by rw [h0], ⟨toI_len L, hin, fun h1 => by omega⟩, fun h1 => by omega⟩
    · exact ⟨_, cap, by rw [toI_len], ⟨toI_len L, hin, fun h1 => by omega⟩, fun h1 => by omega⟩
  · obtain ⟨g, cap, rfl, h1, h2, h3⟩ := h.form (by rw [toI_len]; exact h0)
    rw [toI_len] at h1 h3
    refine ⟨_, _, by rw [toI_len], ⟨toI_len L, hin, fun _ => ⟨g, 0, rfl, h2, fun j hj => by rw [Nat.zero_add]; exact h3 j hj⟩⟩, fun _ => ⟨g, rfl, h1, h2, fun j hj => by rw [h3 j hj, toI_oAt hj]⟩⟩
end Go.Proofs.YtlknncmnphbpkaaGreatDoor.GrdQ

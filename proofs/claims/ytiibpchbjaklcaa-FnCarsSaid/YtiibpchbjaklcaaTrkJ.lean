/- The walks of the place of a height, program and reference. -/
import Derived.Test.YtiibpchbjaklcaaTrkI
namespace Go.Proofs.Ytiibpchbjaklcaa.TrkJ
open Go.RowKit Go.Proofs.Ytiibpchbjaklcaa.Plain Go.Proofs.Ytiibpchbjaklcaa.TrkP Go.Proofs.Ytiibpchbjaklcaa.WalkA Go.Proofs.Ytiibpchbjaklcaa.TrkA Go.Proofs.Ytiibpchbjaklcaa.TrkB Go.Proofs.Ytiibpchbjaklcaa.TrkC Go.Proofs.Ytiibpchbjaklcaa.TrkD Go.Proofs.Ytiibpchbjaklcaa.TrkE Go.Proofs.Ytiibpchbjaklcaa.TrkF Go.Proofs.Ytiibpchbjaklcaa.TrkG Go.Proofs.Ytiibpchbjaklcaa.TrkH Go.Proofs.Ytiibpchbjaklcaa.TrkI Go.Proofs.Ytiibpchbjaklcaa.Least

theorem remTo_mono {l : List (Int × Int)} {x y : Int} (h : x ≤ y) (k : Nat) : remTo l x k ≤ remTo l y k ∧ minI (remTo l x k) (secL l k) ≤ minI (remTo l y k) (secL l k) := by
  have step : ∀ a b s : Int, a ≤ b → minI a s ≤ minI b s ∧ a - minI a s ≤ b - minI b s := by
    intro a b s hab
    unfold minI
    split <;> split <;> omega
  induction k with
  | zero => exact ⟨h, (step _ _ _ h).1⟩
  | succ k ih =>
    have h1 := (step _ _ (secL l k) ih.1).2
    exact ⟨h1, (step _ _ _ h1).1⟩
theorem riseTo_mono {l : List (Int × Int)} (hg : GoodL l) {x y : Int} (h : x ≤ y) (k : Nat) (hk : k ≤ l.length) : riseTo l x k ≤ riseTo l y k := by
  induction k with
  | zero => exact Int.le_refl _
  | succ k ih =>
    have h1 := ih (by omega)
    have h2 := Int.mul_le_mul_of_nonneg_right (remTo_mono (l := l) h k).2 (hg.2 k (by omega)).2.2.1
    simp only [riseTo]
    omega
theorem hAt_mono {l : List (Int × Int)} (hg : GoodL l) {x y : Int} (h : x ≤ y) : hAt l x ≤ hAt l y := Int.ediv_le_ediv (by omega) (riseTo_mono hg h _ (Nat.le_refl _))

/-- The first number from lo on, of k, of which p holds; the next one if of none. -/
def firstT (p : Int → Bool) (lo : Int) : Nat → Int
  | 0 => lo
  | k + 1 => if firstT p lo k ≤ lo + k - 1 then firstT p lo k else if p (lo + k) = true then lo + k else lo + k + 1
theorem firstT_is (p : Int → Bool) (lo : Int) (k : Nat) : Turn p lo (lo + k - 1) (firstT p lo k) := by
  induction k with
  | zero => exact ⟨by simp [firstT], by simp [firstT], fun h => by simp [firstT] at h, fun h => by simp [firstT] at h; omega⟩
  | succ k ih =>
    obtain ⟨h1, h2, h3, h4⟩ := ih
    unfold firstT
    split
    · exact ⟨h1, by omega, h3, fun _ => h4 ‹_›⟩
    · have e : firstT p lo k = lo + k := by omega
      rw [e] at h3
      split
      · exact ⟨by omega, by omega, h3, fun _ => ‹_›⟩
      · exact ⟨by omega, by omega, fun _ => by rw [Int.add_sub_cancel]; exact Bool.not_eq_true _ ▸ ‹¬ p (lo + k) = true›, fun h => by omega⟩
def plcP (l : List (Int × Int)) (h : Int) (x : Int) : Bool := decide (h ≤ hAt l x)
theorem plcP_rises {l : List (Int × Int)} (hg : GoodL l) (h : Int) (hi : Int) : Rises (plcP l h) 0 hi := by
  intro i j _ h2 _ h4
  have a := of_decide_eq_true h4
  have b := hAt_mono hg h2
  exact decide_eq_true (by omega)
def plcR (l : List (Int × Int)) (h : Int) : Int := firstT (plcP l h) 0 (lenAll l + 1).toNat
theorem plcR_is {l : List (Int × Int)} (hg : GoodL l) (h : Int) : Turn (plcP l h) 0 (lenAll l) (plcR l h) := by
  have := firstT_is (plcP l h) 0 (lenAll l + 1).toNat
  have b := (lenAll_bds hg).1
  have e : (0 : Int) + ((lenAll l + 1).toNat : Int) - 1 = lenAll l := by omega
  rw [e] at this
  exact this
def plcC (l : List (Int × Int)) (lf lu h : Int) : Int := if trackB l lf lu = true then (if inB h 0 3000000 = true then (if hAt l (lenAll l) < h then 3 else 0) else 2) else 1
def plcV (l : List (Int × Int)) (lf lu h : Int) : Int := if plcC l lf lu h = 0 then plcR l h else 0
theorem plc_bad {l : List (Int × Int)} {lf lu a : Int} (h : trackB l lf lu = false) : plcC l lf lu a = 1 ∧ plcV l lf lu a = 0 := by simp [plcV, plcC, h]
theorem plc_range {l : List (Int × Int)} {lf lu a : Int} (h : trackB l lf lu = true) (k : inB a 0 3000000 = false) : plcC l lf lu a = 2 ∧ plcV l lf lu a = 0 := by simp [plcV, plcC, h, k]
theorem plc_none {l : List (Int × Int)} {lf lu a : Int} (h : trackB l lf lu = true) (k : inB a 0 3000000 = true) (m : hAt l (lenAll l) < a) : plcC l lf lu a = 3 ∧ plcV l lf lu a = 0 := by simp [plcV, plcC, h, k, m]
theorem plc_ok {l : List (Int × Int)} {lf lu a : Int} (h : trackB l lf lu = true) (k : inB a 0 3000000 = true) (m : ¬ hAt l (lenAll l) < a) : plcC l lf lu a = 0 ∧ plcV l lf lu a = plcR l a := by
  have e : plcC l lf lu a = 0 := by simp [plcC, h, k, m]
  exact ⟨e, by unfold plcV; rw [if_pos e]⟩
theorem plcR_le {l : List (Int × Int)} (hg : GoodL l) {a : Int} : hAt l (lenAll l) < a ↔ lenAll l < plcR l a := by
  have ht := plcR_is hg a
  have b := (lenAll_bds hg).1
  have h1 := ht.all (plcP_rises hg a (lenAll l)) (lenAll l) b (Int.le_refl _)
  constructor
  · intro h
    apply Int.not_le.1
    intro h2
    have := of_decide_eq_true (h1.2 h2)
    omega
  · intro h
    apply Int.not_le.1
    intro h2
    have := h1.1 (decide_eq_true h2)
    omega

theorem keep31 {p q : Nat} {W wc w2 : World} {v0 v1 v2 u0 : Value} (hp : p < W.heap.size) (hq : q < W.heap.size) (h0 : wc.cell? ⟨p, 0, none⟩ = some v0) (h1 : wc.cell? ⟨p, 1, none⟩ = some v1) (h2 : wc.cell? ⟨p, 2, none⟩ = some v2)
    (k0 : wc.cell? ⟨q, 0, none⟩ = some u0) (hb : Below W.heap.size W wc) (h : Below wc.heap.size wc w2) :
    w2.cell? ⟨p, 0, none⟩ = some v0 ∧ w2.cell? ⟨p, 1, none⟩ = some v1 ∧ w2.cell? ⟨p, 2, none⟩ = some v2 ∧ w2.cell? ⟨q, 0, none⟩ = some u0 ∧ Below W.heap.size W w2 :=
  have hp' := Nat.lt_of_lt_of_le hp hb.size
  have hq' := Nat.lt_of_lt_of_le hq hb.size
  ⟨(h.cell (p := ⟨p, 0, none⟩) hp').trans h0, (h.cell (p := ⟨p, 1, none⟩) hp').trans h1, (h.cell (p := ⟨p, 2, none⟩) hp').trans h2, (h.cell (p := ⟨q, 0, none⟩) hq').trans k0, hb.trans (h.mono hb.size)⟩
theorem boxed2 (w : World) (t t' : TypeId) (a b c d : Value) :
    ((w.alloc (.cells #[a, b, c] t)).alloc (.cells #[d] t')).cell? ⟨w.heap.size, 0, none⟩ = some a ∧ ((w.alloc (.cells #[a, b, c] t)).alloc (.cells #[d] t')).cell? ⟨w.heap.size, 1, none⟩ = some b ∧ ((w.alloc (.cells #[a, b, c] t)).alloc (.cells #[d] t')).cell? ⟨w.heap.size, 2, none⟩ = some c ∧
    ((w.alloc (.cells #[a, b, c] t)).alloc (.cells #[d] t')).cell? ⟨w.heap.size + 1, 0, none⟩ = some d ∧ Below w.heap.size w ((w.alloc (.cells #[a, b, c] t)).alloc (.cells #[d] t')) ∧ ((w.alloc (.cells #[a, b, c] t)).alloc (.cells #[d] t')).heap.size = w.heap.size + 2 := by
  obtain ⟨h1, h2⟩ := rows_two w t t' #[a, b, c] #[d]
  obtain ⟨h3, h4, h5, _, _, _⟩ := h1.three
  exact ⟨h3, h4, h5, h2.cell 0, ((Below.refl _ _).alloc (Nat.le_refl _) _).alloc (by simp) _, by simp⟩
end Go.Proofs.Ytiibpchbjaklcaa.TrkJ

/- Plain arithmetic for the first chapters: ranges, nearest quotients, square roots, days of a calendar, a check value of bytes and names. No program in sight. No conditions beyond those each lemma states. -/
namespace Go.Proofs.Ytgojebiipcngoaa.Plain

/-- Is n from low to high? -/
def inB (n low high : Int) : Bool := decide (low ≤ n) && decide (n ≤ high)
theorem inB_iff {n lo hi : Int} : inB n lo hi = true ↔ lo ≤ n ∧ n ≤ hi := by simp [inB]
theorem inB_not {n lo hi : Int} : inB n lo hi = false ↔ ¬ (lo ≤ n ∧ n ≤ hi) := by
  rw [← inB_iff, Bool.not_eq_true]

theorem ediv_unique {a b k : Int} (hb : 0 < b) (h1 : b * k ≤ a) (h2 : a < b * (k + 1)) : a / b = k := by
  apply Int.le_antisymm
  · exact Int.lt_add_one_iff.1 (Int.ediv_lt_of_lt_mul hb (by rw [Int.mul_comm]; exact h2))
  · exact Int.le_ediv_of_mul_le hb (by rw [Int.mul_comm]; exact h1)

/-- The nearest quotient, halves away from 0, as the reference forms it. -/
def posR (a b : Int) : Int := if a < 0 then -((b - 2 * a) / (2 * b)) else (2 * a + b) / (2 * b)
def divR (a b : Int) : Int := if b < 0 then posR (-a) (-b) else posR a b

/-- The nearest quotient as the program forms it. -/
def absI (n : Int) : Int := if n < 0 then -n else n
def nearR (a b : Int) : Int :=
  if absI b - absI (a.tmod b) ≤ absI (a.tmod b) then (if (decide (a < 0) != decide (b < 0)) = true then a.tdiv b - 1 else a.tdiv b + 1) else a.tdiv b

theorem posR_nonneg {a b : Int} (ha : 0 ≤ a) (hb : 0 < b) : posR a b = if b ≤ 2 * (a % b) then a / b + 1 else a / b := by
  have h1 := Int.mul_ediv_add_emod a b
  have h2 := Int.emod_nonneg a (Int.ne_of_gt hb)
  have h3 := Int.emod_lt_of_pos a hb
  unfold posR
  rw [if_neg (by omega)]
  split
  · apply ediv_unique (by omega)
    · simp only [Int.mul_assoc, Int.mul_add, Int.mul_one]; omega
    · simp only [Int.mul_assoc, Int.mul_add, Int.mul_one]; omega
  · apply ediv_unique (by omega)
    · simp only [Int.mul_assoc]; omega
    · simp only [Int.mul_assoc, Int.mul_add, Int.mul_one]; omega
theorem posR_neg {a b : Int} (hb : 0 < b) : posR (-a) b = -posR a b := by
  unfold posR
  by_cases h : a = 0
  · subst h
    have e : (2 * 0 + b) / (2 * b) = 0 := ediv_unique (by omega) (by omega) (by omega)
    simp only [Int.neg_zero, Int.lt_irrefl, if_false, e]
  · by_cases h' : a < 0
    · rw [if_neg (by omega), if_pos h']
      have : 2 * -a + b = b - 2 * a := by omega
      rw [this]; omega
    · rw [if_pos (by omega), if_neg h']
      have : b - 2 * -a = 2 * a + b := by omega
      rw [this]
theorem divR_neg_neg (a b : Int) (hb : b ≠ 0) : divR (-a) (-b) = divR a b := by
  unfold divR
  by_cases h : b < 0
  · rw [if_neg (by omega), if_pos h]
  · rw [if_pos (by omega), if_neg h]; simp
theorem nearR_eq (a b : Int) (hb : b ≠ 0) : nearR a b = divR a b := by
  have key : ∀ a b : Int, 0 ≤ a → 0 < b → nearR a b = posR a b := by
    intro a b ha hb
    have h2 := Int.emod_nonneg a (Int.ne_of_gt hb)
    rw [posR_nonneg ha hb]
    unfold nearR absI
    rw [Int.tmod_eq_emod_of_nonneg ha, Int.tdiv_eq_ediv_of_nonneg ha]
    simp only [show ¬ b < 0 by omega, show ¬ a < 0 by omega, show ¬ a % b < 0 by omega, if_false, decide_false, bne_self_eq_false, Bool.false_eq_true]
    by_cases h : b ≤ 2 * (a % b)
    · rw [if_pos (by omega), if_pos h]
    · rw [if_neg (by omega), if_neg h]
  have abs_neg : ∀ x : Int, absI (-x) = absI x := by intro x; unfold absI; split <;> split <;> omega
  have hs1 : ∀ a b : Int, a ≠ 0 → b ≠ 0 → nearR (-a) b = - nearR a b := by
    intro a b ha hb
    unfold nearR
    rw [Int.neg_tmod, Int.neg_tdiv, abs_neg]
    have e : (decide (-a < 0) != decide (b < 0)) = !(decide (a < 0) != decide (b < 0)) := by
      by_cases h1 : a < 0 <;> by_cases h2 : b < 0 <;> simp [h1, h2] <;> omega
    rw [e]
    split
    · cases (decide (a < 0) != decide (b < 0)) <;> simp <;> omega
    · rfl
  have hs2 : ∀ a b : Int, a ≠ 0 → b ≠ 0 → nearR a (-b) = - nearR a b := by
    intro a b ha hb
    unfold nearR
    rw [Int.tmod_neg, Int.tdiv_neg, abs_neg]
    have e : (decide (a < 0) != decide (-b < 0)) = !(decide (a < 0) != decide (b < 0)) := by
      by_cases h1 : a < 0 <;> by_cases h2 : b < 0 <;> simp [h1, h2] <;> omega
    rw [e]
    split
    · cases (decide (a < 0) != decide (b < 0)) <;> simp <;> omega
    · rfl
  have hz : ∀ b : Int, b ≠ 0 → nearR 0 b = 0 := by
    intro b hb
    unfold nearR absI
    simp only [Int.zero_tmod, Int.zero_tdiv]
    rw [if_neg (by split <;> simp <;> omega)]
  have hz' : ∀ b : Int, 0 < b → posR 0 b = 0 := by
    intro b hb
    unfold posR
    rw [if_neg (by omega)]
    exact ediv_unique (by omega) (by omega) (by omega)
  by_cases h0 : a = 0
  · subst h0
    rw [hz b hb]
    unfold divR
    by_cases h : b < 0
    · rw [if_pos h, Int.neg_zero, hz' _ (by omega)]
    · rw [if_neg h, hz' _ (by omega)]
  unfold divR
  by_cases hb' : b < 0
  · rw [if_pos hb']
    by_cases ha : a < 0
    · rw [← key _ _ (by omega) (by omega), hs1 _ _ h0 (by omega), hs2 _ _ h0 hb]; omega
    · rw [posR_neg (by omega), ← key _ _ (by omega) (by omega), hs2 _ _ h0 hb]; omega
  · rw [if_neg hb']
    by_cases ha : a < 0
    · have := posR_neg (a := -a) (b := b) (by omega)
      rw [Int.neg_neg] at this
      rw [this, ← key _ _ (by omega) (by omega), hs1 _ _ h0 hb]; omega
    · rw [← key _ _ (by omega) (by omega)]

theorem posR_bound {a b : Int} (hb : 0 < b) : -(absI a) ≤ posR a b ∧ posR a b ≤ absI a := by
  have key : ∀ a : Int, 0 ≤ a → 0 ≤ posR a b ∧ posR a b ≤ a := by
    intro a ha
    have h1 := Int.mul_ediv_add_emod a b
    have h2 := Int.emod_nonneg a (Int.ne_of_gt hb)
    have h3 := Int.emod_lt_of_pos a hb
    have h4 : 0 ≤ a / b := Int.ediv_nonneg ha (by omega)
    have h5 : a / b ≤ b * (a / b) := by
      have := Int.mul_le_mul_of_nonneg_right (show (1 : Int) ≤ b by omega) h4
      omega
    rw [posR_nonneg ha hb]
    split <;> omega
  unfold absI
  split
  · have := key (-a) (by omega)
    have e := posR_neg (a := a) hb
    rw [e] at this
    omega
  · have := key a (by omega)
    omega
theorem divR_bound {a b : Int} (hb : b ≠ 0) : -(absI a) ≤ divR a b ∧ divR a b ≤ absI a := by
  unfold divR
  split
  · have := posR_bound (a := -a) (b := -b) (by omega)
    have e : absI (-a) = absI a := by unfold absI; split <;> split <;> omega
    rw [e] at this
    exact this
  · exact posR_bound (by omega)
theorem divR_pos {a b : Int} (hb : 0 < b) : divR a b = posR a b := by unfold divR; rw [if_neg (by omega)]
theorem divR_nonneg {a b : Int} (ha : 0 ≤ a) (hb : 0 < b) : divR a b = (2 * a + b) / (2 * b) := by
  rw [divR_pos hb]; unfold posR; rw [if_neg (by omega)]
theorem divR_neg_left {a b : Int} (hb : b ≠ 0) : divR (-a) b = -divR a b := by
  unfold divR
  split
  · rw [posR_neg (by omega)]
  · exact posR_neg (by omega)

theorem absI_nat (x : Int) : absI x = (x.natAbs : Int) := by unfold absI; split <;> omega
theorem bne_form (p q : Bool) : (p != q) = (!p == q) := by cases p <;> cases q <;> rfl
theorem nearR_bounds {a b : Int} (hb : b ≠ 0) : 0 ≤ absI (a.tmod b) ∧ absI (a.tmod b) < absI b ∧ -(absI b) < a.tmod b ∧ a.tmod b < absI b ∧ -(absI a) ≤ a.tdiv b ∧ a.tdiv b ≤ absI a := by
  have h1 := Int.natAbs_tmod a b
  have h2 : (a.tdiv b).natAbs = a.natAbs / b.natAbs := Int.natAbs_tdiv a b
  have h3 : a.natAbs % b.natAbs < b.natAbs := Nat.mod_lt _ (by omega)
  have h4 : a.natAbs / b.natAbs ≤ a.natAbs := Nat.div_le_self _ _
  simp only [absI_nat]
  generalize a.natAbs / b.natAbs = q at *
  generalize a.natAbs % b.natAbs = r at *
  omega
theorem nearR_stay {a b : Int} (h : absI (a.tmod b) < absI b - absI (a.tmod b)) : a.tdiv b = nearR a b := by unfold nearR; rw [if_neg (by omega)]
theorem nearR_down {a b : Int} (h : absI b - absI (a.tmod b) ≤ absI (a.tmod b)) (h2 : (!decide (a < 0) == decide (b < 0)) = true) : a.tdiv b - 1 = nearR a b := by
  unfold nearR; rw [if_pos h, if_pos (by rw [bne_form]; exact h2)]
theorem nearR_up {a b : Int} (h : absI b - absI (a.tmod b) ≤ absI (a.tmod b)) (h2 : (!decide (a < 0) == decide (b < 0)) = false) : a.tdiv b + 1 = nearR a b := by
  unfold nearR; rw [if_pos h, if_neg (by rw [bne_form, h2]; simp)]
theorem ediv_bounds {x y : Int} (h : 0 ≤ x) (hy : 0 < y) : 0 ≤ x / y ∧ x / y ≤ x := ⟨Int.ediv_nonneg h (by omega), Int.ediv_le_self _ h⟩

/-! ### square roots -/
theorem root_unique {n r s : Int} (hr : 0 ≤ r) (hs : 0 ≤ s) (h1 : r * r ≤ n) (h2 : n < (s + 1) * (s + 1)) : r ≤ s := by
  apply Int.not_lt.1
  intro h
  have : (s + 1) * (s + 1) ≤ r * r := Int.mul_le_mul (by omega) (by omega) (by omega) (by omega)
  omega
theorem root_same {n r s : Int} (hr : 0 ≤ r) (hs : 0 ≤ s) (h1 : r * r ≤ n) (h2 : n < (r + 1) * (r + 1)) (h3 : s * s ≤ n) (h4 : n < (s + 1) * (s + 1)) : r = s :=
  Int.le_antisymm (root_unique hr hs h1 h4) (root_unique hs hr h3 h2)
/-- r is the root of n as the document has it. -/
def IsRoot (n r : Int) : Prop := (n < 0 → r = 0) ∧ 0 ≤ r ∧ (0 ≤ n → r * r ≤ n ∧ n < (r + 1) * (r + 1))
theorem IsRoot.same {n r s : Int} (h : IsRoot n r) (k : IsRoot n s) : r = s := by
  by_cases h0 : n < 0
  · rw [h.1 h0, k.1 h0]
  · obtain ⟨_, h1, h2⟩ := h
    obtain ⟨_, k1, k2⟩ := k
    exact root_same h1 k1 (h2 (by omega)).1 (h2 (by omega)).2 (k2 (by omega)).1 (k2 (by omega)).2
theorem root_exists (n : Int) : ∃ r, IsRoot n r := by
  by_cases h : n < 0
  · exact ⟨0, fun _ => rfl, by omega, fun h' => by omega⟩
  · obtain ⟨k, rfl⟩ := Int.eq_ofNat_of_zero_le (show 0 ≤ n by omega)
    clear h
    induction k with
    | zero => exact ⟨0, fun h => by omega, by omega, fun _ => by decide⟩
    | succ k ih =>
      obtain ⟨r, _, h0, h2⟩ := ih
      obtain ⟨h3, h4⟩ := h2 (by omega)
      by_cases h5 : ((k + 1 : Nat) : Int) < (r + 1) * (r + 1)
      · exact ⟨r, fun h => by omega, h0, fun _ => ⟨by omega, h5⟩⟩
      · refine ⟨r + 1, fun h => by omega, by omega, fun _ => ⟨by omega, ?_⟩⟩
        have e : (r + 1 + 1) * (r + 1 + 1) = (r + 1) * (r + 1) + 2 * (r + 1) + 1 := by
          rw [Int.add_mul, Int.mul_add (r + 1) (r + 1) 1]; omega
        omega
/-- What a search by halving knows of n's root. -/
def RootIn (n lo hi : Int) : Prop := (n < 0 → lo = 0) ∧ (0 ≤ n → lo * lo ≤ n) ∧ n < (hi + 1) * (hi + 1)
theorem RootIn.start {n : Int} (h : n ≤ 9223372036854775807) : RootIn n 0 3037000499 := ⟨fun _ => rfl, fun h => by omega, by omega⟩
theorem RootIn.up {n lo hi m : Int} (h : RootIn n lo hi) (hm : m * m ≤ n) (h0 : 0 ≤ m) : RootIn n m hi :=
  ⟨fun hn => by have := Int.mul_nonneg h0 h0; omega, fun _ => hm, h.2.2⟩
theorem RootIn.down {n lo hi m : Int} (h : RootIn n lo hi) (hm : n < m * m) : RootIn n lo (m - 1) :=
  ⟨h.1, h.2.1, by rw [Int.sub_add_cancel]; exact hm⟩
theorem RootIn.done {n lo hi : Int} (h : RootIn n lo hi) (h0 : 0 ≤ lo) (e : lo = hi) : IsRoot n lo := by
  subst e
  exact ⟨h.1, h0, fun hn => ⟨h.2.1 hn, h.2.2⟩⟩
theorem sq_le {m b : Int} (h0 : 0 ≤ m) (h : m ≤ b) : 0 ≤ m * m ∧ m * m ≤ b * b := ⟨Int.mul_nonneg h0 h0, Int.mul_le_mul h h h0 (by omega)⟩
/-- What a search bit by bit knows of n's root: b is the double of the next bit, or 1 behind the last. -/
def RootBit (n r b : Int) : Prop := r * r ≤ n ∧ n < (r + b) * (r + b)
theorem RootBit.start {n : Int} (h0 : 0 ≤ n) (h : n ≤ 9223372036854775807) : RootBit n 0 4294967296 := ⟨by omega, by omega⟩
theorem RootBit.up {n r b : Int} (h : RootBit n r (2 * b)) (hm : (r + b) * (r + b) ≤ n) : RootBit n (r + b) b := ⟨hm, by have := h.2; have e : r + b + b = r + 2 * b := (by omega); rw [e]; exact this⟩
theorem RootBit.down {n r b : Int} (h : RootBit n r (2 * b)) (hm : n < (r + b) * (r + b)) : RootBit n r b := ⟨h.1, hm⟩
theorem RootBit.done {n r : Int} (h : RootBit n r 1) (h0 : 0 ≤ r) (hn : 0 ≤ n) : IsRoot n r := ⟨fun h' => by omega, h0, fun _ => h⟩
theorem le_quo {n m : Int} (hm : 0 < m) : m ≤ n / m ↔ m * m ≤ n := Int.le_ediv_iff_mul_le hm
end Go.Proofs.Ytgojebiipcngoaa.Plain

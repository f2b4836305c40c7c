/- Plain arithmetic for the first chapters: ranges, nearest quotients, square roots, days of a calendar, a check value of bytes and names. No program in sight. No conditions beyond those each lemma states. -/
namespace Go.Proofs.YtlknncmnphbpkaaGreatDoor.Plain

/-- Is n from low to high? -/
def inB (n low high : Int) : Bool := decide (low ≤ n) && decide (n ≤ high)
theorem inB_iff {n lo hi : Int} : inB n lo hi = true ↔ lo ≤ n ∧ n ≤ hi := by simp [inB]
theorem inB_not {n lo hi : Int} : inB n lo hi = false ↔ ¬ (lo ≤ n ∧ n ≤ hi) := by
  rw [← inB_iff, Bool.not_eq_true]

theorem ediv_unique {a b k : Int} (hb : 0 < b) (h1 : b * k ≤ a) (h2 : a < b * (k + 1)) : a / b = k := by
  apply Int.le_antisymm
  · exact Int.lt_add_one_iff.1 (Int.ediv_lt_of_lt_mul hb (by rw [Int.mul_comm]; exact h2))
  · exact Int.le_ediv_of_mul_le hb (by rw [Int.mul_comm]; exact h1)

/-- The nearest quotient, halves away from 0, as the reference forms it. -/
def posR (a b : Int) : Int := if a < 0 then -((b - 2 * a) / (2 * b)) else (2 * a + b) / (2 * b)
def divR (a b : Int) : Int := if b < 0 then posR (-a) (-b) else posR a b

/-- The nearest quotient as the program forms it. -/
def absI (n : Int) : Int := if n < 0 then -n else n
def nearR (a b : Int) : Int :=
  if absI b - absI (a.tmod b) ≤ absI (a.tmod b) then (if (decide (a < 0) != decide (b < 0)) = true then a.tdiv b - 1 else a.tdiv b + 1) else a.tdiv b

theorem posR_nonneg {a b : Int} (ha : 0 ≤ a) (hb : 0 < b) : posR a b = if b ≤ 2 * (a % b) then a / b + 1 else a / b := by
  have h1 := Int.mul_ediv_add_emod a b
  have h2 := Int.emod_nonneg a (Int.ne_of_gt hb)
  have h3 := Int.emod_lt_of_pos a hb
  unfold posR
  rw [if_neg (by omega)]
  split
  · apply ediv_unique (by omega)
    · simp only [Int.mul_assoc, Int.mul_add, Int.mul_one]; omega
    · simp only [Int.mul_assoc, Int.mul_add, Int.mul_one]; omega
  · apply ediv_unique (by omega)
    · simp only [Int.mul_assoc]; omega
    · simp only [Int.mul_assoc, Int.mul_add, Int.mul_one]; omega
theorem posR_neg {a b : Int} (hb : 0 < b) : posR (-a) b = -posR a b := by
  unfold posR
  by_cases h : a = 0
  · subst h
    have e : (2 * 0 + b) / (2 * b) = 0 := ediv_unique (by omega) (by omega) (by omega)
    simp only [Int.neg_zero, Int.lt_irrefl, if_false, e]
  · by_cases h' : a < 0
    · rw [if_neg (by omega), if_pos h']
      have : 2 * -a + b = b - 2 * a := by omega
      rw [this]; omega
    · rw [if_pos (by omega), if_neg h']
      have : b - 2 * -a = 2 * a + b := by omega
      rw [this]
theorem divR_neg_neg (a b : Int) (hb : b ≠ 0) : divR (-a) (-b) = divR a b := by
  unfold divR
  by_cases h : b < 0
  · rw [if_neg (by omega), if_pos h]
  · rw [if_pos (by omega), if_neg h]; simp
theorem nearR_eq (a b : Int) (hb : b ≠ 0) : nearR a b = divR a b := by
  have key : ∀ a b : Int, 0 ≤ a → 0 < b → nearR a b = posR a b := by
    intro a b ha hb
    have h2 := Int.emod_nonneg a (Int.ne_of_gt hb)
    rw [posR_nonneg ha hb]
    unfold nearR absI
    rw [Int.tmod_eq_emod_of_nonneg ha, Int.tdiv_eq_ediv_of_nonneg ha]
    simp only [show ¬ b < 0 by omega, show ¬ a < 0 by omega, show ¬ a % b < 0 by omega, if_false, decide_false, bne_self_eq_false, Bool.false_eq_true]
    by_cases h : b ≤ 2 * (a % b)
    · rw [if_pos (by omega), if_pos h]
    · rw [if_neg (by omega), if_neg h]
  have abs_neg : ∀ x : Int, absI (-x) = absI x := by intro x; unfold absI; split <;> split <;> omega
  have hs1 : ∀ a b : Int, a ≠ 0 → b ≠ 0 → nearR (-a) b = - nearR a b := by
    intro a b ha hb
    unfold nearR
    rw [Int.neg_tmod, Int.neg_tdiv, abs_neg]
    have e : (decide (-a < 0) != decide (b < 0)) = !(decide (a < 0) != decide (b < 0)) := by
      by_cases h1 : a < 0 <;> by_cases h2 : b < 0 <;> simp [h1, h2] <;> omega
    rw [e]
    split
    · cases (decide (a < 0) != decide (b < 0)) <;> simp <;> omega
    · rfl
  have hs2 : ∀ a b : Int, a ≠ 0 → b ≠ 0 → nearR a (-b) = - nearR a b := by
    intro a b ha hb
    unfold nearR
    rw [Int.tmod_neg, Int.tdiv_neg, abs_neg]
    have e : (decide (a < 0) != decide (-b < 0)) = !(decide (a < 0) != decide (b < 0)) := by
      by_cases h1 : a < 0 <;> by_cases h2 : b < 0 <;> simp [h1, h2] <;> omega
    rw [e]
    split
    · cases (decide (a < 0) != decide (b < 0)) <;> simp <;> omega
    · rfl
  have hz : ∀ b : Int, b ≠ 0 → nearR 0 b = 0 := by
    intro b hb
    unfold nearR absI
    simp only [Int.zero_tmod, Int.zero_tdiv]
    rw [if_neg (by split <;> simp <;> omega)]
  have hz' : ∀ b : Int, 0 < b → posR 0 b = 0 := by
    intro b hb
    unfold posR
    rw [if_neg (by omega)]
    exact ediv_unique (by omega) (by omega) (by omega)
  by_cases h0 : a = 0
  · subst h0
    rw [hz b hb]
    unfold divR
    by_cases h : b < 0
    · rw [if_pos h, Int.neg_zero, hz' _ (by omega)]
    · rw [if_neg h, hz' _ (by omega)]
  unfold divR
  by_cases hb' : b < 0
  · rw [if_pos hb']
    by_cases ha : a < 0
    · rw [← key _ _ (by omega) (by omega), hs1 _ _ h0 (by omega), hs2 _ _ h0 hb]; omega
    · rw [posR_neg (by omega), ← key _ _ (by omega) (by omega), hs2 _ _ h0 hb]; omega
  · rw [if_neg hb']
    by_cases ha : a < 0
    · have := posR_neg (a := -a) (b := b) (by omega)
      rw [Int.neg_neg] at this
      rw [this, ← key _ _ (by omega) (by omega), hs1 _ _ h0 hb]; omega
    · rw [← key _ _ (by omega) (by omega)]

theorem posR_bound {a b : Int} (hb : 0 < b) : -(absI a) ≤ posR a b ∧ posR a b ≤ absI a := by
  have key : ∀ a : Int, 0 ≤ a → 0 ≤ posR a b ∧ posR a b ≤ a := by
    intro a ha
    have h1 := Int.mul_ediv_add_emod a b
    have h2 := Int.emod_nonneg a (Int.ne_of_gt hb)
    have h3 := Int.emod_lt_of_pos a hb
    have h4 : 0 ≤ a / b := Int.ediv_nonneg ha (by omega)
    have h5 : a / b ≤ b * (a / b) := by
      have := Int.mul_le_mul_of_nonneg_right (show (1 : Int) ≤ b by omega) h4
      omega
    rw [posR_nonneg ha hb]
    split <;> omega
  unfold absI
  split
  · have := key (-a) (by omega)
    have e := posR_neg (a := a) hb
    rw [e] at this
    omega
  · have := key a (by omega)
    omega
theorem divR_bound {a b : Int} (hb : b ≠ 0) : -(absI a) ≤ divR a b ∧ divR a b ≤ absI a := by
  unfold divR
  split
  · have := posR_bound (a := -a) (b := -b) (by omega)
    have e : absI (-a) = absI a := by unfold absI; split <;> split <;> omega
    rw [e] at this
    exact this
  · exact posR_bound (by omega)
theorem divR_pos {a b : Int} (hb : 0 < b) : divR a b = posR a b := by unfold divR; rw [if_neg (by omega)]
theorem divR_nonneg {a b : Int} (ha : 0 ≤ a) (hb : 0 < b) : divR a b = (2 * a + b) / (2 * b) := by
  rw [divR_pos hb]; unfold posR; rw [if_neg (by omega)]
theorem divR_neg_left {a b : Int} (hb : b ≠ 0) : divR (-a) b = -divR a b := by
  unfold divR
  split
  · rw [posR_neg (by omega)]
  · exact posR_neg (by omega)

theorem absI_nat (x : Int) : absI x = (x.natAbs : Int) := by unfold absI; split <;> omega
theorem bne_form (p q : Bool) : (p != q) = (!p == q) := by cases p <;> cases q <;> rfl
theorem nearR_bounds {a b : Int} (hb : b ≠ 0) : 0 ≤ absI (a.tmod b) ∧ absI (a.tmod b) < absI b ∧ -(absI b) < a.tmod b ∧ a.tmod b < absI b ∧ -(absI a) ≤ a.tdiv b ∧ a.tdiv b ≤ absI a := by
  have h1 := Int.natAbs_tmod a b
  have h2 : (a.tdiv b).natAbs = a.natAbs / b.natAbs := Int.natAbs_tdiv a b
  have h3 : a.natAbs % b.natAbs < b.natAbs := Nat.mod_lt _ (by omega)
  have h4 : a.natAbs / b.natAbs ≤ a.natAbs := Nat.div_le_self _ _
  simp only [absI_nat]
  generalize a.natAbs / b.natAbs = q at *
  generalize a.natAbs % b.natAbs = r at *
  omega
theorem nearR_stay {a b : Int} (h : absI (a.tmod b) < absI b - absI (a.tmod b)) : a.tdiv b = nearR a b := by unfold nearR; rw [if_neg (by omega)]
theorem nearR_down {a b : Int} (h : absI b - absI (a.tmod b) ≤ absI (a.tmod b)) (h2 : (!decide (a < 0) == decide (b < 0)) = true) : a.tdiv b - 1 = nearR a b := by
  unfold nearR; rw [if_pos h, if_pos (by rw [bne_form]; exact h2)]
theorem nearR_up {a b : Int} (h : absI b - absI (a.tmod b) ≤ absI (a.tmod b)) (h2 : (!decide (a < 0) == decide (b < 0)) = false) : a.tdiv b + 1 = nearR a b := by
  unfold nearR; rw [if_pos h, if_neg (by rw [bne_form, h2]; simp)]
theorem ediv_bounds {x y : Int} (h : 0 ≤ x) (hy : 0 < y) : 0 ≤ x / y ∧ x / y ≤ x := ⟨Int.ediv_nonneg h (by omega), Int.ediv_le_self _ h⟩

/-! ### square roots -/
theorem root_unique {n r s : Int} (hr : 0 ≤ r) (hs : 0 ≤ s) (h1 : r * r ≤ n) (h2 : n < (s + 1) * (s + 1)) : r ≤ s := by
  apply Int.not_lt.1
  intro h
  have : (s + 1) * (s + 1) ≤ r * r := Int.mul_le_mul (by omega) (by omega) (by omega) (by omega)
  omega
theorem root_same {n r s : Int} (hr : 0 ≤ r) (hs : 0 ≤ s) (h1 : r * r ≤ n) (h2 : n < (r + 1) * (r + 1)) (h3 : s * s ≤ n) (h4 : n < (s + 1) * (s + 1)) : r = s :=
  Int.le_antisymm (root_unique hr hs h1 h4) (root_unique hs hr h3 h2)
/-- r is the root of n as the document has it. -/
def IsRoot (n r : Int) : Prop := (n < 0 → r = 0) ∧ 0 ≤ r ∧ (0 ≤ n → r * r ≤ n ∧ n < (r + 1) * (r + 1))
theorem IsRoot.same {n r s : Int} (h : IsRoot n r) (k : IsRoot n s) : r = s := by
  by_cases h0 : n < 0
  · rw [h.1 h0, k.1 h0]
  · obtain ⟨_, h1, h2⟩ := h
    obtain ⟨_, k1, k2⟩ := k
    exact root_same h1 k1 (h2 (by omega)).1 (h2 (by omega)).2 (k2 (by omega)).1 (k2 (by omega)).2
theorem root_exists (n : Int) : ∃ r, IsRoot n r := by
  by_cases h : n < 0
  · exact ⟨0, fun _ => rfl, by omega, fun h' => by omega⟩
  · obtain ⟨k, rfl⟩ := Int.eq_ofNat_of_zero_le (show 0 ≤ n by omega)
    clear h
    induction k with
    | zero => exact ⟨0, fun h => by omega, by omega, fun _ => by decide⟩
    | succ k ih =>
      obtain ⟨r, _, h0, h2⟩ := ih
      obtain ⟨h3, h4⟩ := h2 (by omega)
      by_cases h5 : ((k + 1 : Nat) : Int) < (r + 1) * (r + 1)
      · exact ⟨r, fun h => by omega, h0, fun _ => ⟨by omega, h5⟩⟩
      · refine ⟨r + 1, fun h => by omega, by omega, fun _ => ⟨by omega, ?_⟩⟩
        have e : (r + 1 + 1) * (r + 1 + 1) = (r + 1) * (r + 1) + 2 * (r + 1) + 1 := by
          rw [Int.add_mul, Int.mul_add (r + 1) (r + 1) 1]; omega
        omega
/-- What a search by halving knows of n's root. -/
def RootIn (n lo hi : Int) : Prop := (n < 0 → lo = 0) ∧ (0 ≤ n → lo * lo ≤ n) ∧ n < (hi + 1) * (hi + 1)
theorem RootIn.start {n : Int} (h : n ≤ 9223372036854775807) : RootIn n 0 3037000499 := ⟨fun _ => rfl, fun h => by omega, by omega⟩
theorem RootIn.up {n lo hi m : Int} (h : RootIn n lo hi) (hm : m * m ≤ n) (h0 : 0 ≤ m) : RootIn n m hi :=
  ⟨fun hn => by have := Int.mul_nonneg h0 h0; omega, fun _ => hm, h.2.2⟩
theorem RootIn.down {n lo hi m : Int} (h : RootIn n lo hi) (hm : n < m * m) : RootIn n lo (m - 1) :=
  ⟨h.1, h.2.1, by rw [Int.sub_add_cancel]; exact hm⟩
theorem RootIn.done {n lo hi : Int} (h : RootIn n lo hi) (h0 : 0 ≤ lo) (e : lo = hi) : IsRoot n lo := by
  subst e
  exact ⟨h.1, h0, fun hn => ⟨h.2.1 hn, h.2.2⟩⟩
theorem sq_le {m b : Int} (h0 : 0 ≤ m) (h : m ≤ b) : 0 ≤ m * m ∧ m * m ≤ b * b := ⟨Int.mul_nonneg h0 h0, Int.mul_le_mul h h h0 (by omega)⟩
/-- What a search bit by bit knows of n's root: b is the double of the next bit, or 1 behind the last. -/
def RootBit (n r b : Int) : Prop := r * r ≤ n ∧ n < (r + b) * (r + b)
theorem RootBit.start {n : Int} (h0 : 0 ≤ n) (h : n ≤ 9223372036854775807) : RootBit n 0 4294967296 := ⟨by omega, by omega⟩
theorem RootBit.up {n r b : Int} (h : RootBit n r (2 * b)) (hm : (r + b) * (r + b) ≤ n) : RootBit n (r + b) b := ⟨hm, by have := h.2; have e : r + b + b = r + 2 * b := (by omega); rw [e]; exact this⟩
theorem RootBit.down {n r b : Int} (h : RootBit n r (2 * b)) (hm : n < (r + b) * (r + b)) : RootBit n r b := ⟨h.1, hm⟩
theorem RootBit.done {n r : Int} (h : RootBit n r 1) (h0 : 0 ≤ r) (hn : 0 ≤ n) : IsRoot n r := ⟨fun h' => by omega, h0, fun _ => h⟩
theorem le_quo {n m : Int} (hm : 0 < m) : m ≤ n / m ↔ m * m ≤ n := Int.le_ediv_iff_mul_le hm
end Go.Proofs.YtlknncmnphbpkaaGreatDoor.Plain
/- Plain laws on days of a calendar, work days, searches by halving and lines through points. No program in sight. No conditions beyond those each lemma states. -/
namespace Go.Proofs.YtlknncmnphbpkaaGreatDoor.Plain

/-! ### months and years -/
def lp (y : Int) : Int := if y % 4 = 0 then 1 else 0
theorem lp_01 (y : Int) : 0 ≤ lp y ∧ lp y ≤ 1 := by unfold lp; split <;> omega
def monL (y m : Int) : Int := if m = 2 then (if y % 4 = 0 then 29 else 28) else if m = 4 ∨ m = 6 ∨ m = 9 ∨ m = 11 then 30 else 31
theorem monL_bd (y m : Int) : 28 ≤ monL y m ∧ monL y m ≤ 31 := by unfold monL; split <;> split <;> omega
def cum (y m : Int) : Int :=
  if m ≤ 1 then 0 else if m = 2 then 31 else lp y + (if m = 3 then 59 else if m = 4 then 90 else if m = 5 then 120 else if m = 6 then 151 else if m = 7 then 181 else if m = 8 then 212
    else if m = 9 then 243 else if m = 10 then 273 else if m = 11 then 304 else if m = 12 then 334 else 365)
theorem cum_one (y : Int) : cum y 1 = 0 := by simp [cum]
theorem cum_succ (y m : Int) (h1 : 1 ≤ m) (h2 : m ≤ 12) : cum y (m + 1) = cum y m + monL y m := by
  have : m = 1 ∨ m = 2 ∨ m = 3 ∨ m = 4 ∨ m = 5 ∨ m = 6 ∨ m = 7 ∨ m = 8 ∨ m = 9 ∨ m = 10 ∨ m = 11 ∨ m = 12 := by omega
  rcases this with rfl | rfl | rfl | rfl | rfl | rfl | rfl | rfl | rfl | rfl | rfl | rfl <;> simp [cum, monL, lp] <;> (try split) <;> omega
theorem cum_bd (y m : Int) : 0 ≤ cum y m ∧ cum y m ≤ 366 := by
  have := lp_01 y
  unfold cum
  split
  · omega
  split
  · omega
  repeat (first | omega | split)
theorem cum_13 (y : Int) : cum y 13 = 365 + lp y := by simp [cum]; omega
theorem cum_mono (y : Int) (m n : Int) (h1 : 1 ≤ m) (h2 : m ≤ n) (h3 : n ≤ 13) : cum y m ≤ cum y n := by
  obtain ⟨k, rfl⟩ : ∃ k : Nat, n = m + k := ⟨(n - m).toNat, by omega⟩
  clear h2
  induction k with
  | zero => simp
  | succ k ih =>
    have h := cum_succ y (m + k) (by omega) (by omega)
    have := monL_bd y (m + k)
    have e : m + ((k + 1 : Nat) : Int) = m + k + 1 := by omega
    rw [e, h]
    have := ih (by omega)
    omega
def dby (y : Int) : Int := (y - 2000) * 365 + (y - 1997) / 4
theorem dby_bd (y : Int) (h1 : 2000 ≤ y) (h2 : y ≤ 2100) : 0 ≤ dby y ∧ dby y ≤ 36525 := by unfold dby; omega
theorem dby_2000 : dby 2000 = 0 := by decide
theorem dby_2100 : dby 2100 = 36525 := by decide
theorem dby_succ (y : Int) : dby (y + 1) = dby y + 365 + lp y := by
  unfold dby lp
  split <;> omega
theorem dby_mono (y z : Int) (h : y ≤ z) : dby y ≤ dby z := by unfold dby; omega
/-- The day of a date. -/
def dayN (y m d : Int) : Int := dby y + cum y m + d - 1
def IsDate (day y m d : Int) : Prop := 2000 ≤ y ∧ y ≤ 2099 ∧ 1 ≤ m ∧ m ≤ 12 ∧ 1 ≤ d ∧ d ≤ monL y m ∧ dayN y m d = day
theorem IsDate.same {day y m d y' m' d' : Int} (h : IsDate day y m d) (k : IsDate day y' m' d') : y = y' ∧ m = m' ∧ d = d' := by
  have main : ∀ {y m d y' m' d' : Int}, IsDate day y m d → IsDate day y' m' d' → ¬ y < y' := by
    intro y m d y' m' d' h k hlt
    obtain ⟨h1, h2, h3, h4, h5, h6, h7⟩ := h
    obtain ⟨k1, k2, k3, k4, k5, k6, k7⟩ := k
    have a := dby_mono (y + 1) y' (by omega)
    have b := dby_succ y
    have c := cum_mono y (m + 1) 13 (by omega) (by omega) (by omega)
    have e := cum_succ y m h3 h4
    have f := cum_13 y
    have g := cum_bd y' m'
    unfold dayN at h7 k7
    omega
  have hy : y = y' := by have := main h k; have := main k h; omega
  subst hy
  have mon : ∀ {m d m' d' : Int}, IsDate day y m d → IsDate day y m' d' → ¬ m < m' := by
    intro m d m' d' h k hlt
    obtain ⟨h1, h2, h3, h4, h5, h6, h7⟩ := h
    obtain ⟨k1, k2, k3, k4, k5, k6, k7⟩ := k
    have c := cum_mono y (m + 1) m' (by omega) (by omega) (by omega)
    have e := cum_succ y m h3 h4
    unfold dayN at h7 k7
    omega
  have hm : m = m' := by have := mon h k; have := mon k h; omega
  subst hm
  have := h.2.2.2.2.2.2
  have := k.2.2.2.2.2.2
  unfold dayN at *
  exact ⟨rfl, rfl, by omega⟩

/-! ### work days -/
def wd (a : Int) : Nat → Int
  | 0 => 0
  | k + 1 => wd a k + if (a + k + 5) % 7 < 5 then 1 else 0
theorem wd_bd (a : Int) (k : Nat) : 0 ≤ wd a k ∧ wd a k ≤ k := by
  induction k with
  | zero => simp [wd]
  | succ k ih => simp only [wd]; split <;> omega

/-! ### searches by halving -/
/-- r is the least number from low to high of which p holds (high + 1 if of none), as far as p at r and before r tells. -/
def Turn (p : Int → Bool) (low high r : Int) : Prop := low ≤ r ∧ r ≤ high + 1 ∧ (low < r → p (r - 1) = false) ∧ (r ≤ high → p r = true)
def Rises (p : Int → Bool) (low high : Int) : Prop := ∀ i j : Int, low ≤ i → i ≤ j → j ≤ high → p i = true → p j = true
theorem Turn.same {p : Int → Bool} {low high r s : Int} (hp : Rises p low high) (h : Turn p low high r) (k : Turn p low high s) : r = s := by
  have main : ∀ {r s : Int}, Turn p low high r → Turn p low high s → ¬ r < s := by
    intro r s h k hlt
    have a := k.2.2.1 (by have := h.1; omega)
    have b := h.2.2.2 (by have := k.2.1; omega)
    have c := hp r (s - 1) h.1 (by omega) (by have := k.2.1; omega) b
    rw [a] at c
    cases c
  have := main h k
  have := main k h
  omega
theorem Turn.all {p : Int → Bool} {low high r : Int} (hp : Rises p low high) (h : Turn p low high r) : ∀ i, low ≤ i → i ≤ high → (p i = true ↔ r ≤ i) := by
  intro i h1 h2
  constructor
  · intro hi
    apply Int.not_lt.1
    intro hlt
    have a := h.2.2.1 (by omega)
    have c := hp i (r - 1) h1 (by omega) (by have := h.2.1; omega) hi
    rw [a] at c
    cases c
  · intro hi
    exact hp r i h.1 hi h2 (h.2.2.2 (by omega))

/-! ### a line -/
def lineI (x0 y0 x1 y1 x : Int) : Int := if x ≤ x0 ∨ x1 ≤ x0 then y0 else if x1 ≤ x then y1 else y0 + divR ((y1 - y0) * (x - x0)) (x1 - x0)

/-! ### the side of a bend -/
def sideI (radius cant speed : Int) : Int := divR (speed * speed) radius - divR (981 * cant) 100
theorem divR_mono_left {a a' b : Int} (ha : 0 ≤ a) (h : a ≤ a') (hb : 0 < b) : divR a b ≤ divR a' b := by
  rw [divR_nonneg ha hb, divR_nonneg (by omega) hb]
  exact Int.ediv_le_ediv (by omega) (by omega)
theorem divR_ge {a b : Int} (ha : 0 ≤ a) (hb : 0 < b) : 0 ≤ divR a b := by
  rw [divR_nonneg ha hb]
  exact Int.ediv_nonneg (by omega) (by omega)
theorem divR_anti {a b b' : Int} (ha : 0 ≤ a) (hb : 0 < b) (h : b ≤ b') : divR a b' ≤ divR a b := by
  rw [divR_nonneg ha hb, divR_nonneg ha (by omega)]
  have e : ∀ c : Int, 0 < c → (2 * a + c) / (2 * c) * (2 * c) ≤ 2 * a + c := fun c hc => Int.ediv_mul_le _ (by omega)
  have h1 := e b' (by omega)
  have hq : 0 ≤ (2 * a + b') / (2 * b') := Int.ediv_nonneg (by omega) (by omega)
  apply Int.le_ediv_of_mul_le (by omega)
  generalize (2 * a + b') / (2 * b') = q at *
  rcases Int.lt_or_le q 1 with hlt | hge
  · have : q = 0 := by omega
    subst this; omega
  · have h2 : (2 * q - 1) * b ≤ (2 * q - 1) * b' := Int.mul_le_mul_of_nonneg_left h (by omega)
    have e1 : q * (2 * b) = (2 * q - 1) * b + b := by rw [Int.sub_mul, Int.mul_assoc, Int.mul_left_comm]; omega
    have e2 : q * (2 * b') = (2 * q - 1) * b' + b' := by rw [Int.sub_mul, Int.mul_assoc, Int.mul_left_comm]; omega
    omega
theorem sq_nonneg (v : Int) : 0 ≤ v * v := by
  rcases Int.le_total 0 v with h | h
  · exact Int.mul_nonneg h h
  · exact Int.mul_nonneg_of_nonpos_of_nonpos h h
theorem sideI_radius {r r' c v : Int} (hr : 0 < r) (h : r ≤ r') : sideI r' c v ≤ sideI r c v := by
  have := divR_anti (a := v * v) (b := r) (b' := r') (sq_nonneg v) hr h
  unfold sideI; omega
theorem sideI_speed {r c v v' : Int} (hr : 0 < r) (hv : 0 ≤ v) (h : v ≤ v') : sideI r c v ≤ sideI r c v' := by
  have h2 : v * v ≤ v' * v' := Int.mul_le_mul h h hv (by omega)
  have := divR_mono_left (a := v * v) (a' := v' * v') (b := r) (Int.mul_nonneg hv hv) h2 hr
  unfold sideI; omega
theorem sideI_zero {r c : Int} (hr : 0 < r) (hc : 0 ≤ c) : sideI r c 0 ≤ 0 := by
  have h1 := divR_ge (a := 981 * c) (b := 100) (by omega) (by omega)
  have h2 : divR (0 * 0) r = 0 := by rw [divR_nonneg (by omega) hr]; exact ediv_unique (by omega) (by omega) (by omega)
  unfold sideI; omega
end Go.Proofs.YtlknncmnphbpkaaGreatDoor.Plain

/- Plain laws on days of a calendar, work days, searches by halving and lines through points. No program in sight. No conditions beyond those each lemma states. -/
import Derived.Test.YtgojebiipcngoaaPlain
namespace Go.Proofs.Ytgojebiipcngoaa.Plain

/-! ### months and years -/
def lp (y : Int) : Int := if y % 4 = 0 then 1 else 0
theorem lp_01 (y : Int) : 0 ≤ lp y ∧ lp y ≤ 1 := by unfold lp; split <;> omega
def monL (y m : Int) : Int := if m = 2 then (if y % 4 = 0 then 29 else 28) else if m = 4 ∨ m = 6 ∨ m = 9 ∨ m = 11 then 30 else 31
theorem monL_bd (y m : Int) : 28 ≤ monL y m ∧ monL y m ≤ 31 := by unfold monL; split <;> split <;> omega
def cum (y m : Int) : Int :=
  if m ≤ 1 then 0 else if m = 2 then 31 else lp y + (if m = 3 then 59 else if m = 4 then 90 else if m = 5 then 120 else if m = 6 then 151 else if m = 7 then 181 else if m = 8 then 212
    else if m = 9 then 243 else if m = 10 then 273 else if m = 11 then 304 else if m = 12 then 334 else 365)
theorem cum_one (y : Int) : cum y 1 = 0 := by simp [cum]
theorem cum_succ (y m : Int) (h1 : 1 ≤ m) (h2 : m ≤ 12) : cum y (m + 1) = cum y m + monL y m := by
  have : m = 1 ∨ m = 2 ∨ m = 3 ∨ m = 4 ∨ m = 5 ∨ m = 6 ∨ m = 7 ∨ m = 8 ∨ m = 9 ∨ m = 10 ∨ m = 11 ∨ m = 12 := by omega
  rcases this with rfl | rfl | rfl | rfl | rfl | rfl | rfl | rfl | rfl | rfl | rfl | rfl <;> simp [cum, monL, lp] <;> (try split) <;> omega
theorem cum_bd (y m : Int) : 0 ≤ cum y m ∧ cum y m ≤ 366 := by
  have := lp_01 y
  unfold cum
  split
  · omega
  split
  · omega
  repeat (first | omega | split)
theorem cum_13 (y : Int) : cum y 13 = 365 + lp y := by simp [cum]; omega
theorem cum_mono (y : Int) (m n : Int) (h1 : 1 ≤ m) (h2 : m ≤ n) (h3 : n ≤ 13) : cum y m ≤ cum y n := by
  obtain ⟨k, rfl⟩ : ∃ k : Nat, n = m + k := ⟨(n - m).toNat, by omega⟩
  clear h2
  induction k with
  | zero => simp
  | succ k ih =>
    have h := cum_succ y (m + k) (by omega) (by omega)
    have := monL_bd y (m + k)
    have e : m + ((k + 1 : Nat) : Int) = m + k + 1 := by omega
    rw [e, h]
    have := ih (by omega)
    omega
def dby (y : Int) : Int := (y - 2000) * 365 + (y - 1997) / 4
theorem dby_bd (y : Int) (h1 : 2000 ≤ y) (h2 : y ≤ 2100) : 0 ≤ dby y ∧ dby y ≤ 36525 := by unfold dby; omega
theorem dby_2000 : dby 2000 = 0 := by decide
theorem dby_2100 : dby 2100 = 36525 := by decide
theorem dby_succ (y : Int) : dby (y + 1) = dby y + 365 + lp y := by
  unfold dby lp
  split <;> omega
theorem dby_mono (y z : Int) (h : y ≤ z) : dby y ≤ dby z := by unfold dby; omega
/-- The day of a date. -/
def dayN (y m d : Int) : Int := dby y + cum y m + d - 1
def IsDate (day y m d : Int) : Prop := 2000 ≤ y ∧ y ≤ 2099 ∧ 1 ≤ m ∧ m ≤ 12 ∧ 1 ≤ d ∧ d ≤ monL y m ∧ dayN y m d = day
theorem IsDate.same {day y m d y' m' d' : Int} (h : IsDate day y m d) (k : IsDate day y' m' d') : y = y' ∧ m = m' ∧ d = d' := by
  have main : ∀ {y m d y' m' d' : Int}, IsDate day y m d → IsDate day y' m' d' → ¬ y < y' := by
    intro y m d y' m' d' h k hlt
    obtain ⟨h1, h2, h3, h4, h5, h6, h7⟩ := h
    obtain ⟨k1, k2, k3, k4, k5, k6, k7⟩ := k
    have a := dby_mono (y + 1) y' (by omega)
    have b := dby_succ y
    have c := cum_mono y (m + 1) 13 (by omega) (by omega) (by omega)
    have e := cum_succ y m h3 h4
    have f := cum_13 y
    have g := cum_bd y' m'
    unfold dayN at h7 k7
    omega
  have hy : y = y' := by have := main h k; have := main k h; omega
  subst hy
  have mon : ∀ {m d m' d' : Int}, IsDate day y m d → IsDate day y m' d' → ¬ m < m' := by
    intro m d m' d' h k hlt
    obtain ⟨h1, h2, h3, h4, h5, h6, h7⟩ := h
    obtain ⟨k1, k2, k3, k4, k5, k6, k7⟩ := k
    have c := cum_mono y (m + 1) m' (by omega) (by omega) (by omega)
    have e := cum_succ y m h3 h4
    unfold dayN at h7 k7
    omega
  have hm : m = m' := by have := mon h k; have := mon k h; omega
  subst hm
  have := h.2.2.2.2.2.2
  have := k.2.2.2.2.2.2
  unfold dayN at *
  exact ⟨rfl, rfl, by omega⟩

/-! ### work days -/
def wd (a : Int) : Nat → Int
  | 0 => 0
  | k + 1 => wd a k + if (a + k + 5) % 7 < 5 then 1 else 0
theorem wd_bd (a : Int) (k : Nat) : 0 ≤ wd a k ∧ wd a k ≤ k := by
  induction k with
  | zero => simp [wd]
  | succ k ih => simp only [wd]; split <;> omega

/-! ### searches by halving -/
/-- r is the least number from low to high of which p holds (high + 1 if of none), as far as p at r and before r tells. -/
def Turn (p : Int → Bool) (low high r : Int) : Prop := low ≤ r ∧ r ≤ high + 1 ∧ (low < r → p (r - 1) = false) ∧ (r ≤ high → p r = true)
def Rises (p : Int → Bool) (low high : Int) : Prop := ∀ i j : Int, low ≤ i → i ≤ j → j ≤ high → p i = true → p j = true
theorem Turn.same {p : Int → Bool} {low high r s : Int} (hp : Rises p low high) (h : Turn p low high r) (k : Turn p low high s) : r = s := by
  have main : ∀ {r s : Int}, Turn p low high r → Turn p low high s → ¬ r < s := by
    intro r s h k hlt
    have a := k.2.2.1 (by have := h.1; omega)
    have b := h.2.2.2 (by have := k.2.1; omega)
    have c := hp r (s - 1) h.1 (by omega) (by have := k.2.1; omega) b
    rw [a] at c
    cases c
  have := main h k
  have := main k h
  omega
theorem Turn.all {p : Int → Bool} {low high r : Int} (hp : Rises p low high) (h : Turn p low high r) : ∀ i, low ≤ i → i ≤ high → (p i = true ↔ r ≤ i) := by
  intro i h1 h2
  constructor
  · intro hi
    apply Int.not_lt.1
    intro hlt
    have a := h.2.2.1 (by omega)
    have c := hp i (r - 1) h1 (by omega) (by have := h.2.1; omega) hi
    rw [a] at c
    cases c
  · intro hi
    exact hp r i h.1 hi h2 (h.2.2.2 (by omega))

/-! ### a line -/
def lineI (x0 y0 x1 y1 x : Int) : Int := if x ≤ x0 ∨ x1 ≤ x0 then y0 else if x1 ≤ x then y1 else y0 + divR ((y1 - y0) * (x - x0)) (x1 - x0)

/-! ### the side of a bend -/
def sideI (radius cant speed : Int) : Int := divR (speed * speed) radius - divR (981 * cant) 100
theorem divR_mono_left {a a' b : Int} (ha : 0 ≤ a) (h : a ≤ a') (hb : 0 < b) : divR a b ≤ divR a' b := by
  rw [divR_nonneg ha hb, divR_nonneg (by omega) hb]
  exact Int.ediv_le_ediv (by omega) (by omega)
theorem divR_ge {a b : Int} (ha : 0 ≤ a) (hb : 0 < b) : 0 ≤ divR a b := by
  rw [divR_nonneg ha hb]
  exact Int.ediv_nonneg (by omega) (by omega)
theorem divR_anti {a b b' : Int} (ha : 0 ≤ a) (hb : 0 < b) (h : b ≤ b') : divR a b' ≤ divR a b := by
  rw [divR_nonneg ha hb, divR_nonneg ha (by omega)]
  have e : ∀ c : Int, 0 < c → (2 * a + c) / (2 * c) * (2 * c) ≤ 2 * a + c := fun c hc => Int.ediv_mul_le _ (by omega)
  have h1 := e b' (by omega)
  have hq : 0 ≤ (2 * a + b') / (2 * b') := Int.ediv_nonneg (by omega) (by omega)
  apply Int.le_ediv_of_mul_le (by omega)
  generalize (2 * a + b') / (2 * b') = q at *
  rcases Int.lt_or_le q 1 with hlt | hge
  · have : q = 0 := by omega
    subst this; omega
  · have h2 : (2 * q - 1) * b ≤ (2 * q - 1) * b' := Int.mul_le_mul_of_nonneg_left h (by omega)
    have e1 : q * (2 * b) = (2 * q - 1) * b + b := by rw [Int.sub_mul, Int.mul_assoc, Int.mul_left_comm]; omega
    have e2 : q * (2 * b') = (2 * q - 1) * b' + b' := by rw [Int.sub_mul, Int.mul_assoc, Int.mul_left_comm]; omega
    omega
theorem sq_nonneg (v : Int) : 0 ≤ v * v := by
  rcases Int.le_total 0 v with h | h
  · exact Int.mul_nonneg h h
  · exact Int.mul_nonneg_of_nonpos_of_nonpos h h
theorem sideI_radius {r r' c v : Int} (hr : 0 < r) (h : r ≤ r') : sideI r' c v ≤ sideI r c v := by
  have := divR_anti (a := v * v) (b := r) (b' := r') (sq_nonneg v) hr h
  unfold sideI; omega
theorem sideI_speed {r c v v' : Int} (hr : 0 < r) (hv : 0 ≤ v) (h : v ≤ v') : sideI r c v ≤ sideI r c v' := by
  have h2 : v * v ≤ v' * v' := Int.mul_le_mul h h hv (by omega)
  have := divR_mono_left (a := v * v) (a' := v' * v') (b := r) (Int.mul_nonneg hv hv) h2 hr
  unfold sideI; omega
theorem sideI_zero {r c : Int} (hr : 0 < r) (hc : 0 ≤ c) : sideI r c 0 ≤ 0 := by
  have h1 := divR_ge (a := 981 * c) (b := 100) (by omega) (by omega)
  have h2 : divR (0 * 0) r = 0 := by rw [divR_nonneg (by omega) hr]; exact ediv_unique (by omega) (by omega) (by omega)
  unfold sideI; omega
end Go.Proofs.Ytgojebiipcngoaa.Plain

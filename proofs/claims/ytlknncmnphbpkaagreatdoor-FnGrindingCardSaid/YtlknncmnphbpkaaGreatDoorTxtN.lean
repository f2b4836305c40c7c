/- Plain laws on numbers read from digits: what the library's reading and the reference's give. No program in sight. -/
import Derived.Lib.ItoaNum
import Derived.Lib.ParseIntBCases
import Derived.Lib.Strings
namespace Go.Proofs.YtlknncmnphbpkaaGreatDoor.TxtN
open Go Go.Lib

def isD (c : UInt8) : Bool := decide (48 ≤ c.toNat) && decide (c.toNat ≤ 57)
theorem isD_iff {c : UInt8} : isD c = true ↔ 48 ≤ c.toNat ∧ c.toNat ≤ 57 := by simp [isD]
def stepD (a : Nat) (c : UInt8) : Nat := 10 * a + (c.toNat - 48)
/-- The number of digits, behind a. -/
def valA (a : Nat) (l : List UInt8) : Nat := l.foldl stepD a
def val (l : List UInt8) : Nat := valA 0 l
theorem valA_nil (a : Nat) : valA a [] = a := rfl
theorem valA_cons (a : Nat) (c : UInt8) (l : List UInt8) : valA a (c :: l) = valA (10 * a + (c.toNat - 48)) l := by unfold valA; rw [List.foldl_cons, stepD]
theorem val_snoc (l : List UInt8) (c : UInt8) : val (l ++ [c]) = 10 * val l + (c.toNat - 48) := by
  unfold val valA
  rw [List.foldl_append, List.foldl_cons, List.foldl_nil, stepD]
/-- Every byte is a digit. -/
def dg (l : List UInt8) : Bool := l.all isD
theorem dg_snoc (l : List UInt8) (c : UInt8) : dg (l ++ [c]) = (dg l && isD c) := by simp [dg]
theorem snocInd {p : List UInt8 → Prop} (nil : p []) (append_singleton : ∀ l c, p l → p (l ++ [c])) (l : List UInt8) : p l := by
  have key : ∀ m : List UInt8, p m.reverse := by
    intro m
    induction m with
    | nil => exact nil
    | cons x m ih => rw [List.reverse_cons]; exact append_singleton _ _ ih
  have := key l.reverse
  rwa [List.reverse_reverse] at this
theorem val_lt : ∀ (k : Nat) (l : List UInt8), dg l = true → l.length ≤ k → val l < 10 ^ k := by
  intro k l
  induction l using snocInd generalizing k with
  | nil => intro _ _; exact Nat.pow_pos (by omega)
  | append_singleton l c ih =>
    intro hd hk
    rw [dg_snoc, Bool.and_eq_true] at hd
    rw [List.length_append, List.length_singleton] at hk
    obtain ⟨j, rfl⟩ : ∃ j, k = j + 1 := ⟨k - 1, by omega⟩
    have h1 := ih j hd.1 (by omega)
    have h2 := isD_iff.1 hd.2
    rw [val_snoc, Nat.pow_succ]
    omega
theorem digit_of {c : UInt8} (h : isD c = true) : UInt8.ofNat (48 + (c.toNat - 48)) = c := by
  have := isD_iff.1 h
  rw [show 48 + (c.toNat - 48) = c.toNat by omega]
  exact UInt8.ofNat_toNat
/-- Digits without a leading nought. -/
def lead (l : List UInt8) : Bool := match l with | [] => false | c :: _ => decide (c ≠ 48)
theorem val_pos : ∀ (l : List UInt8), dg l = true → lead l = true → 0 < val l := by
  intro l
  induction l using snocInd with
  | nil => intro _ h; cases h
  | append_singleton l c ih =>
    intro hd hl
    rw [dg_snoc, Bool.and_eq_true] at hd
    rw [val_snoc]
    cases l with
    | nil =>
      have h1 := isD_iff.1 hd.2
      have h2 : c ≠ 48 := of_decide_eq_true hl
      have h3 : c.toNat ≠ 48 := fun e => h2 (UInt8.toNat_inj.1 e)
      omega
    | cons x r =>
      have := ih hd.1 hl
      omega
theorem digits_val : ∀ (l : List UInt8), dg l = true → (lead l = true ∨ l.length = 1) → decDigits (val l) = l := by
  intro l
  induction l using snocInd with
  | nil => intro _ h; rcases h with h | h <;> cases h
  | append_singleton l c ih =>
    intro hd hl
    rw [dg_snoc, Bool.and_eq_true] at hd
    have h1 := isD_iff.1 hd.2
    rw [val_snoc]
    cases l with
    | nil =>
      have e : val [] = 0 := rfl
      rw [e, Nat.mul_zero, Nat.zero_add, decDigits_one (by omega), digit_of hd.2]
      rfl
    | cons x r =>
      have hl' : lead (x :: r) = true := by
        rcases hl with h | h
        · exact h
        · rw [List.length_append, List.length_cons, List.length_singleton] at h; omega
      have h2 := ih hd.1 (.inl hl')
      have h3 := val_pos _ hd.1 hl'
      generalize val (x :: r) = v at *
      rw [decDigits, dif_neg (by omega), show (10 * v + (c.toNat - 48)) / 10 = v by omega, show (10 * v + (c.toNat - 48)) % 10 = c.toNat - 48 by omega, h2, digit_of hd.2]
theorem dec_facts : ∀ (k u : Nat), u ≤ k → dg (decDigits u) = true ∧ val (decDigits u) = u ∧ (0 < u → lead (decDigits u) = true) ∧ decDigits u ≠ [] := by
  intro k
  induction k with
  | zero =>
    intro u hu
    obtain rfl : u = 0 := by omega
    rw [decDigits_one (by omega)]
    exact ⟨by decide, by decide, by omega, by simp⟩
  | succ k ih =>
    intro u hu
    by_cases h : u < 10
    · rw [decDigits_one h]
      have e : (UInt8.ofNat (48 + u)).toNat = 48 + u := by rw [UInt8.toNat_ofNat', Nat.mod_eq_of_lt (by omega)]
      refine ⟨?_, ?_, ?_, by simp⟩
      · show ([UInt8.ofNat (48 + u)].all isD) = true
        rw [List.all_cons, List.all_nil, Bool.and_true, isD_iff, e]
        omega
      · show 10 * 0 + ((UInt8.ofNat (48 + u)).toNat - 48) = u
        rw [e]; omega
      · intro h0
        exact decide_eq_true (fun h2 => by have := congrArg UInt8.toNat h2; rw [e] at this; have h48 : (48 : UInt8).toNat = 48 := rfl; omega)
    · obtain ⟨a, b, c, d⟩ := ih (u / 10) (by omega)
      rw [decDigits, dif_neg h]
      have e : (UInt8.ofNat (48 + u % 10)).toNat = 48 + u % 10 := by rw [UInt8.toNat_ofNat', Nat.mod_eq_of_lt (by omega)]
      refine ⟨?_, ?_, ?_, by simp⟩
      · rw [dg_snoc, a, Bool.true_and, isD_iff, e]; omega
      · rw [val_snoc, b, e]; omega
      · intro _
        have := c (by omega)
        cases hq : decDigits (u / 10) with
        | nil => exact absurd hq d
        | cons x r => rw [hq] at this; exact this
theorem dec_dg (u : Nat) : dg (decDigits u) = true := (dec_facts u u (Nat.le_refl _)).1
theorem dec_val (u : Nat) : val (decDigits u) = u := (dec_facts u u (Nat.le_refl _)).2.1
theorem dec_lead {u : Nat} (h : 0 < u) : lead (decDigits u) = true := (dec_facts u u (Nat.le_refl _)).2.2.1 h
theorem dec_ne (u : Nat) : decDigits u ≠ [] := (dec_facts u u (Nat.le_refl _)).2.2.2

/-- Up to 18 digits that are the form of a number. -/
def canon (l : List UInt8) : Bool := decide (l.length ≤ 18) && (dg l && (lead l || decide (l.length = 1)))
/-- The number of a text, with 'true'; or 0. -/
def numP (l : List UInt8) : Int × Bool :=
  match l with
  | [] => (0, false)
  | c :: r => if c = 45 then (if (canon r && lead r) = true then (-((val r : Nat) : Int), true) else (0, false)) else if canon (c :: r) = true then (((val (c :: r) : Nat) : Int), true) else (0, false)
theorem numP_minus (r : List UInt8) : numP (45 :: r) = if (canon r && lead r) = true then (-((val r : Nat) : Int), true) else (0, false) := by
  show (if (45 : UInt8) = 45 then (if (canon r && lead r) = true then (-((val r : Nat) : Int), true) else (0, false)) else (if canon (45 :: r) = true then (((val (45 :: r) : Nat) : Int), true) else (0, false))) = _
  rw [if_pos rfl]
theorem numP_plain {c : UInt8} (r : List UInt8) (h : c ≠ 45) : numP (c :: r) = if canon (c :: r) = true then (((val (c :: r) : Nat) : Int), true) else (0, false) := by
  show (if c = 45 then (if (canon r && lead r) = true then (-((val r : Nat) : Int), true) else (0, false)) else (if canon (c :: r) = true then (((val (c :: r) : Nat) : Int), true) else (0, false))) = _
  rw [if_neg h]
theorem canon_iff {l : List UInt8} : canon l = true ↔ l.length ≤ 18 ∧ dg l = true ∧ (lead l = true ∨ l.length = 1) := by
  unfold canon
  rw [Bool.and_eq_true, Bool.and_eq_true, Bool.or_eq_true, decide_eq_true_eq, decide_eq_true_eq]
theorem numP_cases (l : List UInt8) : (∃ n, numP l = (n, true) ∧ itoa n = l ∧ -1000000000000000000 < n ∧ n < 1000000000000000000) ∨ numP l = (0, false) := by
  cases l with
  | nil => exact .inr rfl
  | cons c r =>
    by_cases hc : c = 45
    · subst hc
      rw [numP_minus]
      by_cases h : (canon r && lead r) = true
      · rw [if_pos h]
        rw [Bool.and_eq_true] at h
        obtain ⟨h1, h2, h3⟩ := canon_iff.1 h.1
        have a := val_lt 18 r h2 h1
        have b := val_pos r h2 h.2
        have d := digits_val r h2 h3
        refine .inl ⟨_, rfl, ?_, by omega, by omega⟩
        unfold itoa
        rw [if_pos (by omega), show (-((val r : Nat) : Int)).natAbs = val r by omega, d]
      · rw [if_neg h]; exact .inr rfl
    · rw [numP_plain r hc]
      by_cases h : canon (c :: r) = true
      · rw [if_pos h]
        obtain ⟨h1, h2, h3⟩ := canon_iff.1 h
        have a := val_lt 18 _ h2 h1
        have d := digits_val _ h2 h3
        refine .inl ⟨_, rfl, ?_, by omega, by omega⟩
        unfold itoa
        rw [if_neg (by omega), show (((val (c :: r) : Nat) : Int)).toNat = val (c :: r) by omega, d]
      · rw [if_neg h]; exact .inr rfl
theorem numP_itoa (n : Int) (h1 : -1000000000000000000 < n) (h2 : n < 1000000000000000000) : numP (itoa n) = (n, true) := by
  have hlen : ∀ u : Nat, u < 1000000000000000000 → (decDigits u).length ≤ 18 := by
    intro u hu
    rw [decDigits_length]
    rcases Nat.eq_zero_or_pos u with h | h
    · subst h; rw [nDigits_small (by omega)]; omega
    · have := val_lt
      rcases Nat.lt_or_ge 18 (nDigits u) with hk | hk
      · exfalso
        have e := decDigits_length u
        have hd := dec_dg u
        have hl := dec_lead h
        have hv := dec_val u
        generalize decDigits u = l at *
        cases l with
        | nil => cases hl
        | cons x r =>
          have ge : ∀ (m : List UInt8) (a : Nat), 10 ^ m.length * a ≤ valA a m := by
            intro m
            induction m with
            | nil => intro a; simp [valA]
            | cons y m ih =>
              intro a
              have := ih (10 * a + (y.toNat - 48))
              rw [valA_cons, List.length_cons, Nat.pow_succ, Nat.mul_assoc]
              refine Nat.le_trans ?_ this
              exact Nat.mul_le_mul_left _ (by omega)
          have hx : x ≠ 48 := of_decide_eq_true hl
          have hx2 : x.toNat ≠ 48 := fun e => hx (UInt8.toNat_inj.1 e)
          have hx3 : isD x = true := by
            have : (isD x && r.all isD) = true := hd
            rw [Bool.and_eq_true] at this
            exact this.1
          have hx4 := isD_iff.1 hx3
          have g := ge r (10 * 0 + (x.toNat - 48))
          have gv : valA (10 * 0 + (x.toNat - 48)) r = val (x :: r) := rfl
          rw [gv, hv] at g
          rw [List.length_cons] at e
          have p : 10 ^ 18 ≤ 10 ^ r.length := Nat.pow_le_pow_right (by omega) (by omega)
          have q : 10 ^ r.length * 1 ≤ 10 ^ r.length * (10 * 0 + (x.toNat - 48)) := Nat.mul_le_mul_left _ (by omega)
          omega
      · exact hk
  by_cases h : n < 0
  · obtain ⟨u, rfl⟩ : ∃ u : Nat, n = -(u : Int) := ⟨n.natAbs, by omega⟩
    have e : itoa (-(u : Int)) = 45 :: decDigits u := by unfold itoa; rw [if_pos h, show (-(u : Int)).natAbs = u by omega]
    rw [e, numP_minus, if_pos, dec_val]
    rw [Bool.and_eq_true]
    exact ⟨canon_iff.2 ⟨hlen u (by omega), dec_dg u, .inl (dec_lead (by omega))⟩, dec_lead (by omega)⟩
  · obtain ⟨u, rfl⟩ : ∃ u : Nat, n = (u : Int) := ⟨n.toNat, by omega⟩
    have e : itoa (u : Int) = decDigits u := by unfold itoa; rw [if_neg h]; rfl
    have hd := dec_dg u
    have hv := dec_val u
    have hl := hlen u (by omega)
    have hq : lead (decDigits u) = true ∨ (decDigits u).length = 1 := by
      rcases Nat.eq_zero_or_pos u with h0 | h0
      · subst h0; rw [decDigits_one (by omega)]; exact .inr rfl
      · exact .inl (dec_lead h0)
    rw [e]
    cases hm : decDigits u with
    | nil => exact absurd hm (dec_ne u)
    | cons c r =>
      rw [hm] at hd hv hl hq
      have hc : c ≠ 45 := by
        intro e2
        subst e2
        have : (isD 45 && r.all isD) = true := hd
        rw [Bool.and_eq_true] at this
        exact absurd this.1 (by decide)
      rw [numP_plain r hc, if_pos (canon_iff.2 ⟨hl, hd, hq⟩), hv]

/-! ### the library's reading -/
theorem parseM_ok : ∀ (l : List UInt8) (a k : Nat), dg l = true → a < 10 ^ k → l.length + k ≤ 18 → parseUintM 18446744073709551615 a l = .ok (valA a l)
  | [], a, k, _, _, _ => rfl
  | c :: r, a, k, hd, ha, hk => by
    have hd' : (isD c && r.all isD) = true := hd
    rw [Bool.and_eq_true] at hd'
    have hc := isD_iff.1 hd'.1
    rw [List.length_cons] at hk
    have hp : 10 ^ k ≤ 10 ^ 17 := Nat.pow_le_pow_right (by omega) (by omega)
    rw [parseUintM, if_pos hc, if_neg (by omega), if_neg (by omega), valA_cons, Nat.mul_comm a 10]
    exact parseM_ok r _ (k + 1) hd'.2 (by rw [Nat.pow_succ]; omega) (by omega)
theorem parseB_ok {l : List UInt8} (h : canon l = true) : parseUintB 64 l = .ok (val l) := by
  obtain ⟨h1, h2, h3⟩ := canon_iff.1 h
  unfold parseUintB
  rw [if_neg (by rintro rfl; rcases h3 with h | h <;> cases h)]
  exact parseM_ok l 0 0 h2 (by decide) (by omega)
theorem parse_num {l : List UInt8} {n : Int} (h : numP l = (n, true)) : parseIntB 64 l = .ok n := by
  cases l with
  | nil => cases h
  | cons c r =>
    by_cases hc : c = 45
    · subst hc
      rw [numP_minus] at h
      by_cases hk : (canon r && lead r) = true
      · rw [if_pos hk] at h
        rw [Bool.and_eq_true] at hk
        have a := val_lt 18 r (canon_iff.1 hk.1).2.1 (canon_iff.1 hk.1).1
        have e : (-((val r : Nat) : Int)) = n := congrArg Prod.fst h
        unfold parseIntB
        simp only [show ((45 : UInt8).toNat = 43 ∨ (45 : UInt8).toNat = 45) from .inr rfl, if_true, parseB_ok hk.1]
        rw [if_neg (by simp), if_neg (by simp; omega)]
        simp [e]
      · rw [if_neg hk] at h; cases h
    · rw [numP_plain r hc] at h
      by_cases hk : canon (c :: r) = true
      · rw [if_pos hk] at h
        have a := val_lt 18 _ (canon_iff.1 hk).2.1 (canon_iff.1 hk).1
        have e : (((val (c :: r) : Nat) : Int)) = n := congrArg Prod.fst h
        have hcd : isD c = true := by
          have hd := (canon_iff.1 hk).2.1
          have : (isD c && r.all isD) = true := hd
          rw [Bool.and_eq_true] at this
          exact this.1
        have hc2 := isD_iff.1 hcd
        have n43 : ¬ c.toNat = 43 := by omega
        have n45 : ¬ c.toNat = 45 := by omega
        unfold parseIntB
        simp only [n43, n45, or_self, if_false, not_false_eq_true, true_and, false_and]
        rw [parseB_ok hk]
        simp only []
        rw [if_neg (by omega), e]
      · rw [if_neg hk] at h; cases h
theorem trim_len {l : List UInt8} {n : Int} (h : numP l = (n, true)) : 1 ≤ (trimPrefix l [45]).length ∧ (trimPrefix l [45]).length ≤ 18 := by
  cases l with
  | nil => cases h
  | cons c r =>
    by_cases hc : c = 45
    · subst hc
      have e : trimPrefix (45 :: r) [45] = r := by simp [trimPrefix, hasPrefix]
      rw [e]
      rw [numP_minus] at h
      by_cases hk : (canon r && lead r) = true
      · rw [Bool.and_eq_true] at hk
        obtain ⟨h1, _, _⟩ := canon_iff.1 hk.1
        cases r with
        | nil => cases hk.2
        | cons x r => exact ⟨by simp, h1⟩
      · rw [if_neg hk] at h; cases h
    · have e : trimPrefix (c :: r) [45] = c :: r := by simp [trimPrefix, hasPrefix, List.isPrefixOf, Ne.symm hc]
      rw [e]
      rw [numP_plain r hc] at h
      by_cases hk : canon (c :: r) = true
      · exact ⟨by simp, (canon_iff.1 hk).1⟩
      · rw [if_neg hk] at h; cases h
/-- What the program does with a text, and that it is the reference's. -/
theorem read_long {l : List UInt8} (h : ¬ (1 ≤ (trimPrefix l [45]).length ∧ (trimPrefix l [45]).length ≤ 18)) : numP l = (0, false) := by
  rcases numP_cases l with ⟨n, hn, _⟩ | h'
  · exact absurd (trim_len hn) h
  · exact h'
theorem read_fail {l : List UInt8} (h : ∀ n, parseIntB 64 l ≠ .ok n) : numP l = (0, false) := by
  rcases numP_cases l with ⟨n, hn, _⟩ | h'
  · exact absurd (parse_num hn) (h n)
  · exact h'
theorem read_other {l : List UInt8} {n : Int} (h : parseIntB 64 l = .ok n) (hne : itoa n ≠ l) : numP l = (0, false) := by
  rcases numP_cases l with ⟨m, hm, hi, _⟩ | h'
  · have := parse_num hm
    rw [h] at this
    injection this with this
    subst this
    exact absurd hi hne
  · exact h'
theorem trim_itoa_len {n : Int} (h : (trimPrefix (itoa n) [45]).length ≤ 18) : -1000000000000000000 < n ∧ n < 1000000000000000000 := by
  have key : ∀ u : Nat, (decDigits u).length ≤ 18 → u < 1000000000000000000 := fun u hu => by
    have := val_lt 18 (decDigits u) (dec_dg u) hu
    rw [dec_val] at this
    exact this
  by_cases hn : n < 0
  · have e : itoa n = 45 :: decDigits n.natAbs := by unfold itoa; rw [if_pos hn]
    have e2 : trimPrefix (45 :: decDigits n.natAbs) [45] = decDigits n.natAbs := by simp [trimPrefix, hasPrefix]
    rw [e, e2] at h
    have := key _ h
    omega
  · have e : itoa n = decDigits n.toNat := by unfold itoa; rw [if_neg hn]
    have e2 : trimPrefix (decDigits n.toNat) [45] = decDigits n.toNat := by
      cases hm : decDigits n.toNat with
      | nil => exact absurd hm (dec_ne _)
      | cons c r =>
        have hc : c ≠ 45 := by
          intro e2
          subst e2
          have hd := dec_dg n.toNat
          rw [hm] at hd
          have : (isD 45 && r.all isD) = true := hd
          rw [Bool.and_eq_true] at this
          exact absurd this.1 (by decide)
        simp [trimPrefix, hasPrefix, List.isPrefixOf, Ne.symm hc]
    rw [e, e2] at h
    have := key _ h
    omega
theorem read_same {l : List UInt8} {n : Int} (h : itoa n = l) (hl : (trimPrefix l [45]).length ≤ 18) : numP l = (n, true) := by
  subst h
  have := trim_itoa_len hl
  exact numP_itoa n this.1 this.2
end Go.Proofs.YtlknncmnphbpkaaGreatDoor.TxtN

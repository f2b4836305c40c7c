/- Plain laws on texts parted and joined, and on lists of numbers read from their texts. -/
import Derived.Test.YtlknncmnphbpkaaGreatDoorTxtG
import Derived.Test.YtlknncmnphbpkaaGreatDoorTxtN
import Derived.Test.YtlknncmnphbpkaaGreatDoorTxtS
namespace Go.Proofs.YtlknncmnphbpkaaGreatDoor.TxtQ
open Go Go.Lib Go.Proofs.YtlknncmnphbpkaaGreatDoor.Plain Go.Proofs.YtlknncmnphbpkaaGreatDoor.TxtA Go.Proofs.YtlknncmnphbpkaaGreatDoor.TxtG Go.Proofs.YtlknncmnphbpkaaGreatDoor.TxtN Go.Proofs.YtlknncmnphbpkaaGreatDoor.TxtS

theorem split_none {c : UInt8} : ∀ l : List UInt8, c ∉ l → split l [c] = [l]
  | [], _ => split_nil c
  | b :: l, h => by
    have hb : b ≠ c := fun e => h (by rw [e]; exact List.mem_cons_self)
    rw [split_ne l hb, split_none l (fun e => h (List.mem_cons_of_mem _ e))]
    rfl
theorem split_app {c : UInt8} : ∀ (x r : List UInt8), c ∉ x → split (x ++ c :: r) [c] = x :: split r [c]
  | [], r, _ => split_eq c r
  | b :: x, r, h => by
    have hb : b ≠ c := fun e => h (by rw [e]; exact List.mem_cons_self)
    show split (b :: (x ++ c :: r)) [c] = _
    rw [split_ne _ hb, split_app x r (fun e => h (List.mem_cons_of_mem _ e))]
    rfl
theorem join_two (x y : List UInt8) (r : List (List UInt8)) (c : UInt8) : join (x :: y :: r) [c] = x ++ c :: join (y :: r) [c] := by
  rw [join_cons, join_cons]
  simp [joinTail]
theorem split_join {c : UInt8} : ∀ xs : List (List UInt8), xs ≠ [] → (∀ x ∈ xs, c ∉ x) → split (join xs [c]) [c] = xs
  | [], h, _ => absurd rfl h
  | [x], _, h => by rw [join_one, split_none x (h x List.mem_cons_self)]
  | x :: y :: r, _, h => by
    rw [join_two, split_app _ _ (h x List.mem_cons_self), split_join (y :: r) (by simp) (fun z hz => h z (List.mem_cons_of_mem _ hz))]
theorem split_ne_nil (c : UInt8) : ∀ l : List UInt8, split l [c] ≠ []
  | [] => by rw [split_nil]; simp
  | b :: l => by
    by_cases h : b = c
    · subst h; rw [split_eq]; simp
    · rw [split_ne l h]
      cases hs : split l [c] with
      | nil => exact absurd hs (split_ne_nil c l)
      | cons x r => simp [pre]
theorem join_split (c : UInt8) : ∀ l : List UInt8, join (split l [c]) [c] = l
  | [] => by rw [split_nil, join_one]
  | b :: l => by
    have ih := join_split c l
    cases hs : split l [c] with
    | nil => exact absurd hs (split_ne_nil c l)
    | cons x r =>
      rw [hs] at ih
      by_cases h : b = c
      · subst h; rw [split_eq, hs, join_two, ih]; rfl
      · rw [split_ne l h, hs]
        show join (([b] ++ x) :: r) [c] = _
        rw [join_cons] at ih ⊢
        rw [← ih]
        simp
/-! ### lists of numbers -/
theorem sep_itoa {c : UInt8} (hc : c.toNat < 45 ∨ c.toNat = 46 ∨ c.toNat = 47 ∨ 57 < c.toNat) (n : Int) : c ∉ itoa n := by
  have key : ∀ u, c ∉ decDigits u := fun u h => by
    have := List.all_eq_true.1 (dec_dg u) c h
    have := isD_iff.1 this
    omega
  unfold itoa
  split
  · intro h
    rcases List.mem_cons.1 h with h | h
    · subst h
      have : (45 : UInt8).toNat = 45 := rfl
      omega
    · exact key _ h
  · exact key _
/-- A number that a list with a text can hold. -/
def okN (p : ByteArray) : Bool := (numP (dl p)).2 && inB (numP (dl p)).1 (-1000000000000) 1000000000000
def num (p : ByteArray) : Int := (numP (dl p)).1
def nums (ps : List ByteArray) : List Int := ps.map num
def rdB (s : ByteArray) : Bool := decide ((spl s 44).length ≤ 64) && (spl s 44).all okN
theorem okN_iff {p : ByteArray} : okN p = true ↔ (numP (dl p)).2 = true ∧ (-1000000000000 ≤ num p ∧ num p ≤ 1000000000000) := by
  unfold okN
  rw [Bool.and_eq_true, inB_iff]
  rfl
theorem num_bound (p : ByteArray) : -1000000000000000000 < num p ∧ num p < 1000000000000000000 := by
  unfold num
  rcases numP_cases (dl p) with ⟨n, hn, _, h⟩ | h
  · rw [hn]; exact h
  · rw [h]; omega
theorem okN_itoa {p : ByteArray} (h : okN p = true) : itoa (num p) = dl p := by
  have h2 := (okN_iff.1 h).1
  unfold num
  rcases numP_cases (dl p) with ⟨n, hn, hi, _⟩ | h'
  · rw [hn]; exact hi
  · rw [h'] at h2; cases h2
theorem nums_len (ps : List ByteArray) : (nums ps).length = ps.length := List.length_map ..
theorem listT_eq {l : List Int} (h : fits l = true) (h0 : 0 < l.length) : dl (listT l) = join (l.map itoa) [44] := by
  unfold listT listP
  rw [if_pos h, if_neg (by omega)]
  rfl
theorem fits_iff {l : List Int} : fits l = true ↔ (∀ x ∈ l, -1000000000000 ≤ x ∧ x ≤ 1000000000000) ∧ l.length ≤ 64 := by
  unfold fits bad
  rw [Bool.and_eq_true, Bool.not_eq_true', List.any_eq_false, decide_eq_true_eq]
  constructor
  · rintro ⟨h1, h2⟩
    refine ⟨fun x hx => ?_, by omega⟩
    have := h1 x hx
    unfold badP at this
    rw [Bool.not_eq_true', Bool.not_eq_false, inB_iff] at this
    exact this
  · rintro ⟨h1, h2⟩
    refine ⟨fun x hx => ?_, by omega⟩
    unfold badP
    rw [Bool.not_eq_true', Bool.not_eq_false, inB_iff]
    exact h1 x hx
theorem spl_map (s : ByteArray) : (spl s 44).map dl = split (dl s) [44] := spl_data s 44
theorem rd_yes {s : ByteArray} (h : rdB s = true) : fits (nums (spl s 44)) = true ∧ listT (nums (spl s 44)) = s := by
  unfold rdB at h
  rw [Bool.and_eq_true, decide_eq_true_eq, List.all_eq_true] at h
  have hf : fits (nums (spl s 44)) = true := fits_iff.2 ⟨fun x hx => by
    obtain ⟨p, hp, rfl⟩ := List.mem_map.1 hx
    exact (okN_iff.1 (h.2 p hp)).2, by rw [nums_len]; exact h.1⟩
  refine ⟨hf, dl_inj ?_⟩
  have h0 : 0 < (nums (spl s 44)).length := by rw [nums_len, spl_len]; omega
  rw [listT_eq hf h0]
  have e : (nums (spl s 44)).map itoa = split (dl s) [44] := by
    rw [← spl_map]
    unfold nums
    rw [List.map_map]
    exact List.map_congr_left fun p hp => okN_itoa (h.2 p hp)
  rw [e, join_split]
theorem rd_of {s : ByteArray} (h : listT (nums (spl s 44)) = s) : rdB s = true := by
  have h0 : 0 < (nums (spl s 44)).length := by rw [nums_len, spl_len]; omega
  cases hf : fits (nums (spl s 44))
  · exfalso
    unfold listT at h
    rw [hf] at h
    have e : s = ⟨#[]⟩ := h.symm
    subst e
    have : fits (nums (spl ⟨#[]⟩ 44)) = true := fits_iff.2 (by
      have e : spl ⟨#[]⟩ 44 = [⟨#[]⟩] := dls_inj (by rw [spl_data]; exact split_nil 44)
      rw [e]
      refine ⟨fun x hx => ?_, by simp [nums]⟩
      have : x = 0 := by simpa [nums, num, dl, numP] using hx
      omega)
    rw [this] at hf
    cases hf
  · have ht := listT_eq hf h0
    rw [h] at ht
    obtain ⟨h1, h2⟩ := fits_iff.1 hf
    have e : split (dl s) [44] = (nums (spl s 44)).map itoa := by
      rw [ht]
      refine split_join _ ?_ ?_
      · intro e
        have := congrArg List.length e
        rw [List.length_map, List.length_nil] at this
        omega
      · intro x hx
        obtain ⟨n, _, rfl⟩ := List.mem_map.1 hx
        exact sep_itoa (.inl (by decide)) n
    rw [← spl_map] at e
    unfold rdB
    rw [Bool.and_eq_true, decide_eq_true_eq, List.all_eq_true]
    rw [nums_len] at h2
    refine ⟨h2, fun p hp => ?_⟩
    have hp1 : dl p = itoa (num p) := by
      obtain ⟨k, hk, rfl⟩ := List.getElem_of_mem hp
      have := congrArg (fun z => z[k]?) e
      unfold nums at this
      simpa [List.getElem?_map, List.getElem?_eq_getElem hk] using this
    have hb := h1 (num p) (List.mem_map.2 ⟨p, hp, rfl⟩)
    refine okN_iff.2 ⟨?_, hb⟩
    rw [hp1, numP_itoa _ (by omega) (by omega)]
/-- What a text of a list gives. -/
def rdL (s : ByteArray) : List Int := if rdB s = true then nums (spl s 44) else []
theorem dash_bad : rdB ⟨#[45]⟩ = false := by
  cases h : rdB ⟨#[45]⟩
  · rfl
  · exfalso
    have e : spl ⟨#[45]⟩ 44 = [⟨#[45]⟩] := dls_inj (by rw [spl_data]; exact split_none _ (by decide))
    unfold rdB at h
    rw [e, Bool.and_eq_true, List.all_eq_true] at h
    have := (okN_iff.1 (h.2 _ List.mem_cons_self)).1
    revert this
    decide
end Go.Proofs.YtlknncmnphbpkaaGreatDoor.TxtQ

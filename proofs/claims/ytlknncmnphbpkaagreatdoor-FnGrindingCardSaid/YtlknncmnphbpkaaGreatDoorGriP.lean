/- Plain facts on the order of grinding: the sort of the library's insertion and the reference's insertion give the same list. -/
import Derived.Sort.WalkA
import Derived.Shelf.SlSortCmp.Insertion
namespace Go.Proofs.YtlknncmnphbpkaaGreatDoor.GriP
open Go.Sort Go.Proofs

variable {α : Type}
/-- An element put to its place among those in front of it, these read from behind. -/
def insB (f : α → Int) (x : α) : List α → List α
  | [] => [x]
  | y :: t => if f y < f x then y :: insB f x t else x :: y :: t
def insF (f : α → Int) (out : List α) (x : α) : List α := (insB f x out.reverse).reverse
theorem insF_nil (f : α → Int) (x : α) : insF f [] x = [x] := rfl
theorem insF_snoc (f : α → Int) (out : List α) (y x : α) : insF f (out ++ [y]) x = if f y < f x then insF f out x ++ [y] else out ++ [y, x] := by
  unfold insF
  rw [List.reverse_append]
  show (insB f x (y :: out.reverse)).reverse = _
  rw [insB]
  split
  · simp
  · simp
theorem insF_len (f : α → Int) (out : List α) (x : α) : (insF f out x).length = out.length + 1 := by
  have h : ∀ l : List α, (insB f x l).length = l.length + 1 := by
    intro l
    induction l with
    | nil => rfl
    | cons y t ih => unfold insB; split <;> simp [ih]
  unfold insF
  rw [List.length_reverse, h, List.length_reverse]
/-- All elements put to their places, one behind the other. -/
def insAll (f : α → Int) (acc : List α) : List α → List α
  | [] => acc
  | x :: l => insAll f (insF f acc x) l
theorem insAll_snoc (f : α → Int) (x : α) : ∀ (l acc : List α), insAll f acc (l ++ [x]) = insF f (insAll f acc l) x
  | [], _ => rfl
  | y :: l, acc => insAll_snoc f x l (insF f acc y)
theorem insAll_len (f : α → Int) : ∀ (l acc : List α), (insAll f acc l).length = acc.length + l.length
  | [], _ => rfl
  | y :: l, acc => by
    show (insAll f (insF f acc y) l).length = _
    rw [insAll_len f l, insF_len, List.length_cons]
    omega

variable [Inhabited α]
/-- Where an element comes to stand: the reference's loop from k on down. -/
def atB (f : α → Int) (n : Int) (out : List α) : Nat → Nat
  | 0 => 0
  | k + 1 => if f (out.getD k default) < n then atB f n out k else k + 1
theorem atB_le (f : α → Int) (n : Int) (out : List α) : ∀ k, atB f n out k ≤ k
  | 0 => Nat.le_refl _
  | k + 1 => by
    unfold atB
    split
    · have := atB_le f n out k; omega
    · exact Nat.le_refl _
theorem atB_low (f : α → Int) (n : Int) (out : List α) (y : α) : ∀ k, k ≤ out.length → atB f n (out ++ [y]) k = atB f n out k
  | 0, _ => rfl
  | k + 1, h => by
    unfold atB
    rw [atB_low f n out y k (by omega)]
    have e : (out ++ [y]).getD k default = out.getD k default := by
      rw [List.getD_eq_getElem?_getD, List.getD_eq_getElem?_getD, List.getElem?_append_left (by omega)]
    rw [e]
theorem insF_at (f : α → Int) (x : α) (out : List α) : insF f out x = out.take (atB f (f x) out out.length) ++ x :: out.drop (atB f (f x) out out.length) := by
  rcases List.eq_nil_or_concat out with h | ⟨i, t, h⟩
  · subst h; rfl
  · rw [List.concat_eq_append] at h
    have hl : i.length < out.length := by rw [h]; simp
    have ih := insF_at f x i
    subst h
    rw [insF_snoc]
    have e : (i ++ [t]).length = i.length + 1 := by simp
    have g : (i ++ [t]).getD i.length default = t := by simp [List.getD_eq_getElem?_getD]
    have hb := atB_le f (f x) i i.length
    rw [e]
    unfold atB
    rw [g, atB_low f (f x) i t i.length (Nat.le_refl _)]
    split
    · rw [ih, List.take_append_of_le_length hb, List.drop_append_of_le_length hb]
      simp
    · rw [List.take_of_length_le (by simp), List.drop_of_length_le (by simp)]
      simp
termination_by out.length
theorem get_mid (out rest : List α) (x : α) : (out ++ x :: rest).toArray[out.length]! = x := by simp
theorem swp_mid (out rest : List α) (y x : α) : swp (out ++ y :: x :: rest).toArray (out.length + 1) out.length = (out ++ x :: y :: rest).toArray := by
  unfold swp
  have e1 : (out ++ y :: x :: rest).toArray[out.length]! = y := get_mid out (x :: rest) y
  have e2 : (out ++ y :: x :: rest).toArray[out.length + 1]! = x := by
    have := get_mid (out ++ [y]) rest x
    rw [List.append_assoc, List.length_append, List.length_singleton] at this
    exact this
  rw [e1, e2]
  apply Array.ext'
  simp
theorem inner_is (f : α → Int) (lt : α → α → Bool) (hlt : ∀ a b, lt a b = decide (f b < f a)) (x : α) : ∀ (out rest : List α), insInner lt 0 out.length (out ++ x :: rest).toArray = (insF f out x ++ rest).toArray := by
  intro out
  generalize hn : out.length = n
  induction n generalizing out with
  | zero =>
    intro rest
    have : out = [] := List.eq_nil_of_length_eq_zero hn
    subst this
    rw [insInner]
    rfl
  | succ n ih =>
    intro rest
    rcases List.eq_nil_or_concat out with h | ⟨i, y, h⟩
    · subst h; simp at hn
    · rw [List.concat_eq_append] at h
      subst h
      have hi : i.length = n := by simpa using hn
      have e0 : i ++ [y] ++ x :: rest = i ++ y :: x :: rest := by simp
      rw [e0, insInner, insF_snoc]
      have g1 : (i ++ y :: x :: rest).toArray[n]! = y := by rw [← hi]; exact get_mid i (x :: rest) y
      have g2 : (i ++ y :: x :: rest).toArray[n + 1]! = x := by
        have := get_mid (i ++ [y]) rest x
        rw [List.append_assoc, List.length_append, List.length_singleton, hi] at this
        exact this
      rw [g1, g2, hlt]
      by_cases h : f y < f x
      · rw [if_pos h, decide_eq_true h]
        have s := swp_mid i rest y x
        rw [hi] at s
        rw [s]
        have := ih i hi (y :: rest)
        simp only [Nat.zero_lt_succ, gt_iff_lt, decide_true, Bool.and_true, if_true]
        rw [this]
        simp
      · rw [if_neg h, decide_eq_false h]
        simp
theorem outer_is (f : α → Int) (lt : α → α → Bool) (hlt : ∀ a b, lt a b = decide (f b < f a)) : ∀ (rest acc : List α), insOuter lt 0 (acc.length + rest.length) acc.length (acc ++ rest).toArray = (insAll f acc rest).toArray
  | [], acc => by
    rw [insOuter_stop _ _ _ _ _ (by simp)]
    simp [insAll]
  | x :: rest, acc => by
    rw [insOuter_go _ _ _ _ _ (by simp), inner_is f lt hlt]
    have := outer_is f lt hlt rest (insF f acc x)
    rw [insF_len] at this
    rw [List.length_cons, show acc.length + (rest.length + 1) = acc.length + 1 + rest.length by omega]
    exact this
theorem sort_is (f : α → Int) (lt : α → α → Bool) (hlt : ∀ a b, lt a b = decide (f b < f a)) (l : List α) : Sort.insertionSort lt l.toArray 0 l.length = (insAll f [] l).toArray := by
  unfold Sort.insertionSort
  cases l with
  | nil =>
    rw [insOuter_stop _ _ _ _ _ (by simp)]
    rfl
  | cons x l =>
    have := outer_is f lt hlt l [x]
    rw [show (x :: l).length = [x].length + l.length by simp; omega]
    exact this
end Go.Proofs.YtlknncmnphbpkaaGreatDoor.GriP

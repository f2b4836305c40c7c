/- Plain laws on parting a text at a byte: what the library's split gives, piece by piece. No program in sight. -/
import Derived.Lib.Split
import Derived.Lib.SplitLaws
namespace Go.Proofs.YtlknncmnphbpkaaGreatDoor.TxtS
open Go Go.Lib

/-- Something put ahead of the first piece. -/
def pre (p : List UInt8) : List (List UInt8) → List (List UInt8)
  | [] => []
  | x :: r => (p ++ x) :: r
theorem pre_nil (y : List (List UInt8)) : pre [] y = y := by cases y <;> rfl
theorem pre_pre (p q : List UInt8) (y : List (List UInt8)) : pre p (pre q y) = pre (p ++ q) y := by
  cases y with
  | nil => rfl
  | cons x r => show (p ++ (q ++ x)) :: r = ((p ++ q) ++ x) :: r; rw [List.append_assoc]
theorem split_nil (c : UInt8) : split [] [c] = [[]] := by
  unfold split
  rw [count_miss (by simp [index])]
  rfl
theorem split_eq (c : UInt8) (l : List UInt8) : split (c :: l) [c] = [] :: split l [c] := by
  have hix : index (c :: l) [c] = ((0 : Nat) : Int) := by rw [index]; simp [List.isPrefixOf]
  have hm : ¬ (index (c :: l) [c] == -1) = true := by rw [hix]; decide
  unfold split
  rw [count_cons_eq, Nat.add_comm 1, splitK, if_neg hm, hix]
  rfl
theorem split_ne {b c : UInt8} (l : List UInt8) (h : b ≠ c) : split (b :: l) [c] = pre [b] (split l [c]) := by
  have hp : ([c] : List UInt8).isPrefixOf (b :: l) = false := by simp [List.isPrefixOf, Ne.symm h]
  have hix : index (b :: l) [c] = if index l [c] == -1 then -1 else index l [c] + 1 := by rw [index, hp]; simp
  unfold split
  rw [count_cons_ne b c l h]
  by_cases hm : index l [c] = -1
  · rw [count_miss hm]
    rfl
  · have hge := index_ge l [c]
    obtain ⟨j, hj⟩ : ∃ j : Nat, index l [c] = j := ⟨(index l [c]).toNat, by omega⟩
    have hix' : index (b :: l) [c] = ((j + 1 : Nat) : Int) := by rw [hix, if_neg (fun e => hm (beq_iff_eq.1 e)), hj]; omega
    have m1 : ¬ (index (b :: l) [c] == -1) = true := fun e => by have := beq_iff_eq.1 e; omega
    have m2 : ¬ (index l [c] == -1) = true := fun e => hm (beq_iff_eq.1 e)
    rw [count_hit (by simp) hj, Nat.add_comm 1, splitK, if_neg m1, splitK, if_neg m2, hix', hj]
    rfl
def dl (a : ByteArray) : List UInt8 := a.data.toList
theorem dl_inj {a b : ByteArray} (h : dl a = dl b) : a = b := by
  cases a with | mk a => cases b with | mk b => simp only [ByteArray.mk.injEq]; exact Array.toList_inj.1 h
theorem dls_inj : ∀ {xs ys : List ByteArray}, xs.map dl = ys.map dl → xs = ys
  | [], [], _ => rfl
  | [], _ :: _, h => by cases h
  | _ :: _, [], h => by cases h
  | x :: xs, y :: ys, h => by
    rw [List.map_cons, List.map_cons] at h
    injection h with h1 h2
    rw [dl_inj h1, dls_inj h2]
/-- A text parted at a byte. -/
def spl (s : ByteArray) (c : UInt8) : List ByteArray := splitB ⟨#[c]⟩ 0 (countB s ⟨#[c]⟩) s
theorem spl_data (s : ByteArray) (c : UInt8) : (spl s c).map dl = split (dl s) [c] := splitB_data ⟨#[c]⟩ 0 _ s
theorem spl_len (s : ByteArray) (c : UInt8) : (spl s c).length = countB s ⟨#[c]⟩ + 1 := splitB_all ⟨#[c]⟩ (Nat.le_refl 1) 0 _ s rfl
/-- The loop's invariant: pieces laid, the one begun at 'from', the rest behind i. -/
def Parted (s : ByteArray) (c : UInt8) (out : List ByteArray) (f i : Nat) : Prop :=
  f ≤ i ∧ i ≤ s.size ∧ out.map dl ++ pre (((dl s).drop f).take (i - f)) (split ((dl s).drop i) [c]) = split (dl s) [c]
theorem dl_len (s : ByteArray) : (dl s).length = s.size := rfl
theorem Parted.start (s : ByteArray) (c : UInt8) : Parted s c [] 0 0 := ⟨Nat.le_refl _, Nat.zero_le _, by
  rw [List.map_nil, List.nil_append, Nat.sub_zero, List.take_zero, pre_nil, List.drop_zero]⟩
theorem extract_dl (s : ByteArray) (a b : Nat) : dl (s.extract a b) = ((dl s).drop a).take (b - a) := extract_data s a b
theorem Parted.cut {s : ByteArray} {c : UInt8} {out : List ByteArray} {f i : Nat} (h : Parted s c out f i) (hi : i < s.size) (hc : (dl s).getD i 0 = c) : Parted s c (out ++ [s.extract f i]) (i + 1) (i + 1) := by
  obtain ⟨h1, h2, h3⟩ := h
  refine ⟨Nat.le_refl _, hi, ?_⟩
  have hi' : i < (dl s).length := hi
  have e : (dl s).drop i = c :: (dl s).drop (i + 1) := by
    rw [List.drop_eq_getElem_cons hi']
    congr 1
    rw [← hc, List.getD_eq_getElem?_getD, List.getElem?_eq_getElem hi']
    rfl
  rw [e, split_eq] at h3
  rw [Nat.sub_self, List.take_zero, pre_nil, List.map_append, List.map_singleton, extract_dl, List.append_assoc, ← h3]
  congr 1
  show _ = (_ ++ []) :: _
  rw [List.append_nil]
  rfl
theorem Parted.go {s : ByteArray} {c : UInt8} {out : List ByteArray} {f i : Nat} (h : Parted s c out f i) (hi : i < s.size) (hc : (dl s).getD i 0 ≠ c) : Parted s c out f (i + 1) := by
  obtain ⟨h1, h2, h3⟩ := h
  refine ⟨by omega, hi, ?_⟩
  have hi' : i < (dl s).length := hi
  have eg : (dl s).getD i 0 = (dl s)[i] := by rw [List.getD_eq_getElem?_getD, List.getElem?_eq_getElem hi']; rfl
  have e : (dl s).drop i = (dl s)[i] :: (dl s).drop (i + 1) := List.drop_eq_getElem_cons hi'
  rw [eg] at hc
  rw [e, split_ne _ hc, pre_pre] at h3
  rw [← h3]
  congr 2
  have e2 : i + 1 - f = (i - f) + 1 := by omega
  have hl : i - f < ((dl s).drop f).length := by rw [List.length_drop]; omega
  rw [e2, List.take_succ_eq_append_getElem hl]
  congr 2
  rw [List.getElem_drop]
  congr 1
  omega
theorem Parted.done {s : ByteArray} {c : UInt8} {out : List ByteArray} {f : Nat} (h : Parted s c out f s.size) : out ++ [s.extract f s.size] = spl s c := by
  apply dls_inj
  obtain ⟨h1, h2, h3⟩ := h
  have e : (dl s).drop s.size = [] := List.drop_eq_nil_of_le (Nat.le_refl _)
  rw [e, split_nil] at h3
  rw [spl_data, ← h3, List.map_append, List.map_singleton, extract_dl]
  show _ = _ ++ [_ ++ []]
  rw [List.append_nil]
/-- The pieces that are not empty. -/
def full (xs : List ByteArray) : List ByteArray := xs.filter fun x => decide (x ≠ ⟨#[]⟩)
end Go.Proofs.YtlknncmnphbpkaaGreatDoor.TxtS

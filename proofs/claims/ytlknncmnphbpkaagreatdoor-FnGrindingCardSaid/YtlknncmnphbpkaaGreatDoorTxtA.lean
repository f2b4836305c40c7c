/- Numbers in decimal: the walks of the reference's l01Dec and of the program's Decimal. -/
import Derived.Test.YtlknncmnphbpkaaGreatDoorPlain
import Derived.Test.YtlknncmnphbpkaaGreatDoorShelf
import Derived.Lib.AppendIntMem
import Derived.Lib.ItoaLen
import Derived.Lib.ItoaMem
import Derived.Lib.UnsafeStr
import Derived.Lib.BufferWrite
import Derived.Lib.Hide
import Derived.Laws.IdiomStrings
import Derived.Laws.OwnMore
import Derived.Deep.AppendLies
import Derived.OwnWalk
import Derived.WalkKit
import Derived.Below
import Derived.BigCall
import Derived.Outline
namespace Go.Proofs.YtlknncmnphbpkaaGreatDoor.TxtA
open Go.RowKit Go.Proofs.YtlknncmnphbpkaaGreatDoor.Plain

/-- A number in decimal. -/
def dec (n : Int) : ByteArray := ⟨(Lib.itoa n).toArray⟩
/-- The digits of a number; none of 0. -/
def D0 (u : Nat) : List UInt8 := if u = 0 then [] else Lib.decDigits u
theorem D0_step {u : Nat} (h : 0 < u) : D0 u = D0 (u / 10) ++ [UInt8.ofNat (48 + u % 10)] := by
  unfold D0
  rw [if_neg (by omega)]
  by_cases h1 : u < 10
  · rw [Lib.decDigits_one h1, if_pos (by omega), Nat.mod_eq_of_lt h1]; rfl
  · rw [if_neg (by omega), Lib.decDigits, dif_neg h1]
theorem dig_val (u : Nat) : ((UInt8.ofNat (48 + u % 10)).toNat : Int) = 48 + (u : Int) % 10 := by
  rw [UInt8.toNat_ofNat', Nat.mod_eq_of_lt (by omega)]
  omega
theorem digits_len {u : Nat} (hu : u ≤ 9223372036854775808) {l : List UInt8} {v : Nat} (h : D0 v ++ l.reverse = Lib.decDigits u) : l.length ≤ 21 := by
  have a := congrArg List.length h
  simp only [List.length_append, List.length_reverse] at a
  have b : (Lib.decDigits u).length ≤ 21 := by
    rcases Nat.eq_zero_or_pos u with h0 | h0
    · subst h0; rw [Lib.decDigits_one (by omega)]; simp
    · have := Lib.itoa_length_le (-(u : Int)) (by omega) (by omega)
      rw [Lib.itoa_neg u h0] at this
      simp at this
      omega
  omega
theorem info_u8 : (Tryz.prog.info? 5).map (fun i => (i.zero, i.size, i.bytes)) = some (some (.int .u8 0), 1, 1) := by kernel_rfl
/-- A slice of bytes of the call's own, from block B on. -/
def Own8 (W : World) (B : Nat) (v : Value) (l : List UInt8) : Prop := W.ownsRow B 5 1 v l.length (Lib.byteCells l)
theorem Own8.snoc {W : World} {B : Nat} {v : Value} {l : List UInt8} {x : UInt8} {z : Int} (h : W.ownsRow B 5 1 v (l.length + 1) (Lib.byteCells l ++ [.int .u8 z])) (hz : (x.toNat : Int) = z) : Own8 W B v (l ++ [x]) := by
  subst hz
  unfold Own8
  rw [Lib.byteCells_append, List.length_append]
  exact h
theorem grown_over {w w' : World} {r : Option Nat} {B : Nat} (h : w.grownBy w' r) (hr : ∀ k, r = some k → B ≤ k) (hB : B ≤ w.heap.size) : Below B w w' :=
  ⟨h.os, h.tape, h.output, h.size, fun k hk => h.block k (by omega) (fun e => by have := hr k e.symm; omega)⟩
theorem Own8.own {W : World} {B : Nat} {v : Value} {l : List UInt8} (h : Own8 W B v l) : ∀ k, v.ownBlock = some k → B ≤ k := fun k hk => (h.lt k hk).1
theorem Own8.below {W W' : World} {B : Nat} {v : Value} {l : List UInt8} (h : Own8 W B v l) {B' : Nat} (hb : Below B' W W') (hv : ∀ k, v.ownBlock = some k → k < B') : Own8 W' B v l := by
  obtain ⟨h1, h2⟩ := h
  refine ⟨h1, ?_⟩
  rcases h2 with h2 | ⟨g, cap, cur, rfl, hB, hg, h3⟩
  · exact .inl h2
  · exact .inr ⟨g, cap, cur, rfl, hB, (hb.block g (hv g rfl)).trans hg, h3⟩
theorem Own8.form {W : World} {B : Nat} {v : Value} {l : List UInt8} (h : Own8 W B v l) (h0 : 0 < l.length) : ∃ g cap, v = .slice (some ⟨g, 0, none⟩) l.length cap ∧ B ≤ g ∧ g < W.heap.size := World.ownsRow.form h h0
theorem Own8.at {W : World} {B g cap : Nat} {l : List UInt8} (h : Own8 W B (.slice (some ⟨g, 0, none⟩) l.length cap) l) (j : Nat) (hj : j < l.length) : W.cell? ⟨g, j, none⟩ = some (.int .u8 ((l.getD j 0).toNat : Int)) := by
  rw [World.ownsRow.cellAt h j (by omega)]
  simp [Lib.byteCells, List.getElem?_eq_getElem hj, List.getD_eq_getElem?_getD]
theorem rev_step8 {l : List UInt8} {j : Nat} (h0 : 0 < j) (hj : j ≤ l.length) : (l.drop (j - 1)).reverse = (l.drop j).reverse ++ [l.getD (j - 1) 0] := by
  have e : l.drop (j - 1) = l[j - 1]'(by omega) :: l.drop (j - 1 + 1) := List.drop_eq_getElem_cons (by omega)
  rw [e, show j - 1 + 1 = j by omega, List.reverse_cons]
  congr 1
  simp [List.getD_eq_getElem?_getD, List.getElem?_eq_getElem (show j - 1 < l.length by omega)]
theorem below_alloc (W : World) (o : Obj) : Below W.heap.size W (W.alloc o) := (Below.refl _ _).alloc (Nat.le_refl _) o
theorem neg_mod (u : Nat) : (-(u : Int)).tmod 10 = -((u : Int) % 10) := by rw [Int.neg_tmod, Int.tmod_eq_emod_of_nonneg (by omega)]
theorem neg_div (u : Nat) : (-(u : Int)).tdiv 10 = -((u : Int) / 10) := by rw [Int.neg_tdiv, Int.tdiv_eq_ediv_of_nonneg (by omega)]
theorem ret_str {a b : ByteArray} (h : a = b) : Ending.returned (.string a) = .returned (.string b) := by rw [h]
theorem val64 {a b : Int} (h : a = b) : Value.int .i64 a = .int .i64 b := by rw [h]

end Go.Proofs.YtlknncmnphbpkaaGreatDoor.TxtA

/- The walks of parting a text: the reference's l01Split, words of a line. -/
import Derived.Test.YtlknncmnphbpkaaGreatDoorTxtG
import Derived.Test.YtlknncmnphbpkaaGreatDoorTxtS
import Derived.Deep.Onto
import Derived.ChangeAgain
namespace Go.Proofs.YtlknncmnphbpkaaGreatDoor.TxtT
open Go.RowKit Go.Proofs.YtlknncmnphbpkaaGreatDoor.Plain Go.Proofs.YtlknncmnphbpkaaGreatDoor.TxtA Go.Proofs.YtlknncmnphbpkaaGreatDoor.TxtB Go.Proofs.YtlknncmnphbpkaaGreatDoor.TxtC Go.Proofs.YtlknncmnphbpkaaGreatDoor.TxtH Go.Proofs.YtlknncmnphbpkaaGreatDoor.TxtS Go.Proofs.YtlknncmnphbpkaaGreatDoor.WalkA Go.Proofs.YtlknncmnphbpkaaGreatDoor.WalkC

/-- Texts in memory of the call's own. -/
def NewS (w : World) (l : List ByteArray) (e : Ending) (w' : World) : Prop := ∃ v, e = .returned v ∧ OwnS w' w.heap.size v l ∧ Below w.heap.size w w'
theorem byte_get (s : ByteArray) (k : Nat) (h : k < s.size) : s[k] = (dl s).getD k 0 := by
  rw [List.getD_eq_getElem?_getD, List.getElem?_eq_getElem (by exact h)]; rfl
theorem OwnS.fresh (w : World) : OwnS (w.alloc (.cells #[] 9)) w.heap.size (.slice (some ⟨w.heap.size, 0, none⟩) 0 0) [] := World.ownsRow_lit w #[] 0 (Nat.le_refl _) (by unfold maxLen; omega) rfl
theorem OwnS.up {W : World} {B : Nat} {v : Value} {l : List ByteArray} (h : OwnS W B v l) : ∀ k, v.ownBlock = some k → B ≤ k := fun k hk => (World.ownsRow.lt h k hk).1

theorem full_next {xs : List ByteArray} {k : Nat} {x : ByteArray} (h : xs[k]? = some x) : full (xs.take (k + 1)) = full (xs.take k) ++ full [x] := by
  have hk := (List.getElem?_eq_some_iff.1 h).1
  have e := (List.getElem?_eq_some_iff.1 h).2
  rw [List.take_succ_eq_append_getElem hk, e]
  exact List.filter_append _ _
theorem full_no {x : ByteArray} (h : x = ⟨#[]⟩) : full [x] = [] := by unfold full; simp [h]
theorem full_yes {x : ByteArray} (h : x ≠ ⟨#[]⟩) : full [x] = [x] := by unfold full; simp [h]
theorem full_le (xs : List ByteArray) : (full xs).length ≤ xs.length := List.length_filter_le _ _
theorem spl_pos (s : ByteArray) (c : UInt8) : 0 < (spl s c).length := by rw [spl_len]; omega
theorem spl_le (s : ByteArray) (c : UInt8) : (spl s c).length ≤ s.size + 1 := by
  rw [spl_len]
  have := Lib.countB_le ⟨#[c]⟩ (Nat.le_refl 1) s.size s (Nat.le_refl _)
  omega
theorem not_empty {x : ByteArray} (h : x ≠ ⟨#[]⟩) : x.toList.isEmpty = false := by
  rw [ByteArray.toList_eq]
  cases hl : x.data.toList with
  | nil => exact absurd (dl_inj (a := x) (b := ⟨#[]⟩) hl) h
  | cons _ _ => rfl
/-- The words of a line. -/
def words (s : ByteArray) : List ByteArray := full (spl s 32)
/-- What the library's split leaves: the pieces in a new block. -/
def Shp (w : World) : Prop := w.ShapedOpen Tryz.prog
theorem Shp.below {w w' : World} (h : Shp w) (hb : Below w.heap.size w w') : Shp w' := World.ShapedOpen.keptBut h (hb.frame (fun _ => False)) (fun _ h => h.elim)
end Go.Proofs.YtlknncmnphbpkaaGreatDoor.TxtT

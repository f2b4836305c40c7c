/- The program's text of a list. -/
import Derived.Test.YtomkldkmaabbnaaDoorTxtG
namespace Go.Proofs.YtomkldkmaabbnaaDoor.TxtH
open Go.RowKit Go.Proofs.YtomkldkmaabbnaaDoor.Plain Go.Proofs.YtomkldkmaabbnaaDoor.TxtA Go.Proofs.YtomkldkmaabbnaaDoor.TxtB Go.Proofs.YtomkldkmaabbnaaDoor.TxtC Go.Proofs.YtomkldkmaabbnaaDoor.TxtG Go.Proofs.YtomkldkmaabbnaaDoor.WalkA Go.Proofs.YtomkldkmaabbnaaDoor.WalkC

theorem info_str : (Tryd.prog.info? 9).map (fun i => (i.zero, i.size, i.bytes)) = some (some (.string ByteArray.empty), 1, 16) := by kernel_rfl
/-- Texts of the call's own, from block B on. -/
def OwnS (W : World) (B : Nat) (v : Value) (l : List ByteArray) : Prop := W.ownsRow B 9 1 v l.length (l.map Value.string)
theorem OwnS.snoc {W : World} {B : Nat} {v : Value} {l : List ByteArray} {x : ByteArray} (h : W.ownsRow B 9 1 v (l.length + 1) (l.map Value.string ++ [.string x])) : OwnS W B v (l ++ [x]) := by
  unfold OwnS
  rw [List.map_append, List.length_append]
  exact h
theorem OwnS.snoc' {W : World} {B k : Nat} {v : Value} {l : List ByteArray} {x : ByteArray} (hl : l.length = k) (h : W.ownsRow B 9 1 v (k + 1) (l.map Value.string ++ [.string x])) : OwnS W B v (l ++ [x]) := by
  subst hl
  exact OwnS.snoc h
theorem OwnS.below {W W' : World} {B : Nat} {v : Value} {l : List ByteArray} (h : OwnS W B v l) (hb : Below W.heap.size W W') : OwnS W' B v l := by
  have hlt := World.ownsRow.lt h
  obtain ⟨h1, h2⟩ := h
  refine ⟨h1, ?_⟩
  rcases h2 with h2 | ⟨g, cap, cur, rfl, hB, hg, h3⟩
  · exact .inl h2
  · exact .inr ⟨g, cap, cur, rfl, hB, (hb.block g (hlt g rfl).2).trans hg, h3⟩
theorem OwnS.form {W : World} {B : Nat} {v : Value} {l : List ByteArray} (h : OwnS W B v l) (h0 : 0 < l.length) : ∃ g cap, v = .slice (some ⟨g, 0, none⟩) l.length cap ∧ l.length ≤ cap ∧ g < W.heap.size ∧ ∀ (j : Nat) x, l[j]? = some x → W.cell? ⟨g, 0 + j, none⟩ = some (.string x) := by
  have hlt := World.ownsRow.lt h
  have h' := h
  rcases h.2 with ⟨_, h2⟩ | ⟨g, cap, cur, rfl, hB, hg, h3, _⟩
  · omega
  · refine ⟨g, cap, rfl, h3, (hlt g rfl).2, fun j x hx => ?_⟩
    have hj := (List.getElem?_eq_some_iff.1 hx).1
    rw [Nat.zero_add, World.ownsRow.cellAt h' j (by omega), List.getElem?_map, hx]
    rfl
theorem OwnS.none (W : World) (B : Nat) : OwnS W B (.slice none 0 0) [] := ⟨rfl, .inl ⟨rfl, rfl⟩⟩
theorem texts_of (l : List Int) : (l.map dec).map (·.data.toList) = l.map Lib.itoa := by
  rw [List.map_map]
  exact List.map_congr_left fun x _ => rfl
theorem join_le {l : List Int} (hz : ∀ i, i < l.length → -9223372036854775808 ≤ iAt l i ∧ iAt l i ≤ 9223372036854775807) (h0 : 0 < l.length) (hn : l.length ≤ 64) : (textOf l).length ≤ 140737488355328 := by
  have a := jn_size hz l.length (Nat.le_refl _)
  rw [jn_list h0] at a
  have e : (ByteArray.mk (textOf l).toArray).size = (textOf l).length := by show (textOf l).toArray.size = _; simp
  omega

end Go.Proofs.YtomkldkmaabbnaaDoor.TxtH

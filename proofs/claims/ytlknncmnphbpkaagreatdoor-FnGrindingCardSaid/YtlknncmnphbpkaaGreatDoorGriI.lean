/- Lists of int64 in memory of a call's own; their comparison; marks laid on them and found again. -/
import Derived.Test.YtlknncmnphbpkaaGreatDoorBlsA
import Derived.BigQuiet
import Derived.Deep.QuietTactic
import Derived.Deep.Onto
import Derived.Laws.OwnMore
namespace Go.Proofs.YtlknncmnphbpkaaGreatDoor.GriI
open Go.RowKit Go.Proofs.YtlknncmnphbpkaaGreatDoor.Plain
def iAt (l : List Int) (i : Nat) : Int := l.getD i 0
/-- A list lies behind a slice, its block below B. -/
def Ints (w : World) (B : Nat) (A : Option Addr) (n : Nat) (l : List Int) : Prop :=
  l.length = n ∧ (∀ i, i < n → -9223372036854775808 ≤ iAt l i ∧ iAt l i ≤ 9223372036854775807) ∧ (0 < n → ∃ b off, A = some ⟨b, off, none⟩ ∧ b < B ∧ ∀ i, i < n → w.cell? ⟨b, off + i, none⟩ = some (.int .i64 (iAt l i)))
theorem Ints.below {w w' : World} {B B' : Nat} {A : Option Addr} {n : Nat} {l : List Int} (h : Ints w B A n l) (hb : Below B w w') (hB : B ≤ B') : Ints w' B' A n l :=
  ⟨h.1, h.2.1, fun hn => by
    obtain ⟨b, off, e, hlt, hc⟩ := h.2.2 hn
    exact ⟨b, off, e, Nat.lt_of_lt_of_le hlt hB, fun i hi => (hb.cell (p := ⟨b, off + i, none⟩) hlt).trans (hc i hi)⟩⟩
/-- Numbers of the call's own, from block B on. -/
def OwnI (W : World) (B : Nat) (v : Value) (l : List Int) : Prop := W.ownsRow B 2 1 v l.length (l.map (Value.int .i64))
theorem OwnI.snoc {W : World} {B : Nat} {v : Value} {l : List Int} {x : Int} (h : W.ownsRow B 2 1 v (l.length + 1) (l.map (Value.int .i64) ++ [.int .i64 x])) : OwnI W B v (l ++ [x]) := by
  unfold OwnI
  rw [List.map_append, List.length_append]
  exact h
theorem OwnI.snoc' {W : World} {B k : Nat} {v : Value} {l : List Int} {x : Int} (hl : l.length = k) (h : W.ownsRow B 2 1 v (k + 1) (l.map (Value.int .i64) ++ [.int .i64 x])) : OwnI W B v (l ++ [x]) := by
  subst hl
  exact OwnI.snoc h
theorem OwnI.below {W W' : World} {B : Nat} {v : Value} {l : List Int} (h : OwnI W B v l) (hb : Below W.heap.size W W') : OwnI W' B v l := by
  have hlt := World.ownsRow.lt h
  obtain ⟨h1, h2⟩ := h
  refine ⟨h1, ?_⟩
  rcases h2 with h2 | ⟨g, cap, cur, rfl, hB, hg, h3⟩
  · exact .inl h2
  · exact .inr ⟨g, cap, cur, rfl, hB, (hb.block g (hlt g rfl).2).trans hg, h3⟩
theorem OwnI.past {W W' : World} {B H : Nat} {v : Value} {l : List Int} (h : OwnI W B v l) (hv : ∀ k, v.ownBlock = some k → k < H) (hb : Below H W W') : OwnI W' B v l := by
  obtain ⟨h1, h2⟩ := h
  refine ⟨h1, ?_⟩
  rcases h2 with h2 | ⟨g, cap, cur, rfl, hB, hg, h3⟩
  · exact .inl h2
  · exact .inr ⟨g, cap, cur, rfl, hB, (hb.block g (hv g rfl)).trans hg, h3⟩
theorem OwnI.mono {W : World} {B B' : Nat} {v : Value} {l : List Int} (h : OwnI W B v l) (hb : B' ≤ B) : OwnI W B' v l := World.ownsRow.mono h hb
theorem OwnI.form {W : World} {B : Nat} {v : Value} {l : List Int} (h : OwnI W B v l) (h0 : 0 < l.length) : ∃ g cap, v = .slice (some ⟨g, 0, none⟩) l.length cap ∧ l.length ≤ cap ∧ g < W.heap.size ∧ ∀ (j : Nat), j < l.length → W.cell? ⟨g, j, none⟩ = some (.int .i64 (iAt l j)) := by
  have hlt := World.ownsRow.lt h
  have h' := h
  rcases h.2 with ⟨_, h2⟩ | ⟨g, cap, cur, rfl, hB, hg, h3, _⟩
  · omega
  · refine ⟨g, cap, rfl, h3, (hlt g rfl).2, fun j hj => ?_⟩
    rw [World.ownsRow.cellAt h' j (by omega), List.getElem?_map, List.getElem?_eq_getElem hj]
    simp [iAt, List.getD_eq_getElem?_getD, List.getElem?_eq_getElem hj]
theorem OwnI.none (W : World) (B : Nat) : OwnI W B (.slice none 0 0) [] := ⟨rfl, .inl ⟨rfl, rfl⟩⟩
theorem OwnI.fresh (w : World) : OwnI (w.alloc (.cells #[] 2)) w.heap.size (.slice (some ⟨w.heap.size, 0, Option.none⟩) 0 0) [] := World.ownsRow_lit w #[] 0 (Nat.le_refl _) (by unfold maxLen; omega) rfl
theorem OwnI.up {W : World} {B : Nat} {v : Value} {l : List Int} (h : OwnI W B v l) : ∀ k, v.ownBlock = some k → B ≤ k := fun k hk => (World.ownsRow.lt h k hk).1
theorem OwnI.shape {W : World} {B : Nat} {v : Value} {l : List Int} (h : OwnI W B v l) : ∃ A c, v = .slice A l.length c := by
  rcases h.2 with ⟨rfl, h0⟩ | ⟨g, cap, _, rfl, _⟩
  · exact ⟨Option.none, 0, by rw [h0]⟩
  · exact ⟨_, _, rfl⟩
theorem OwnI.shape' {W : World} {B k : Nat} {v : Value} {l : List Int} (hl : l.length = k) (h : OwnI W B v l) : ∃ A c, v = .slice A k c := by subst hl; exact OwnI.shape h
/-- All numbers of a list are of 64 bits. -/
def In64 (l : List Int) : Prop := ∀ i, i < l.length → -9223372036854775808 ≤ iAt l i ∧ iAt l i ≤ 9223372036854775807
theorem OwnI.ints {W : World} {B : Nat} {A : Option Addr} {n c : Nat} {l : List Int} (h : OwnI W B (.slice A n c) l) (hn : n = l.length) (hz : In64 l) : Ints W W.heap.size A n l := by
  subst hn
  refine ⟨rfl, hz, fun h0 => ?_⟩
  obtain ⟨g, cap, e, _, hg, hc⟩ := h.form h0
  injection e with e1 e2 e3
  exact ⟨g, 0, e1, hg, fun j hj => by rw [Nat.zero_add]; exact hc j hj⟩
/-- A list whose first k numbers are marks. -/
def mkI (k : Nat) (l : List Int) : List Int := (List.range l.length).map fun j => if j < k then ((j + 1 : Nat) : Int) else l.getD j 0
theorem mkI_len (k : Nat) (l : List Int) : (mkI k l).length = l.length := by simp [mkI]
theorem mkI_get (k : Nat) (l : List Int) {j : Nat} (hj : j < l.length) : (mkI k l)[j]? = some (if j < k then ((j + 1 : Nat) : Int) else l.getD j 0) := by
  unfold mkI
  rw [List.getElem?_map, List.getElem?_range hj]
  rfl
theorem mkI_at (k : Nat) (l : List Int) {j : Nat} (hj : j < l.length) : iAt (mkI k l) j = if j < k then ((j + 1 : Nat) : Int) else l.getD j 0 := by
  unfold iAt
  rw [List.getD_eq_getElem?_getD, mkI_get k l hj]
  rfl
theorem mkI_zero (l : List Int) : mkI 0 l = l := by
  apply List.ext_getElem?
  intro j
  by_cases hj : j < l.length
  · rw [mkI_get 0 l hj, if_neg (by omega), List.getD_eq_getElem?_getD, List.getElem?_eq_getElem hj]
    rfl
  · rw [List.getElem?_eq_none (by rw [mkI_len]; omega), List.getElem?_eq_none (by omega)]
theorem mkI_step {k : Nat} {l : List Int} (hk : k < l.length) : (mkI k l).set k ((k + 1 : Nat) : Int) = mkI (k + 1) l := by
  apply List.ext_getElem?
  intro j
  by_cases hj : j < l.length
  · rw [mkI_get (k + 1) l hj]
    by_cases e : j = k
    · subst e
      rw [List.getElem?_set_self (by rw [mkI_len]; exact hj), if_pos (by omega)]
    · rw [List.getElem?_set_ne (fun h => e h.symm), mkI_get k l hj]
      by_cases h2 : j < k
      · rw [if_pos h2, if_pos (by omega)]
      · rw [if_neg h2, if_neg (by omega)]
  · rw [List.getElem?_eq_none (by rw [List.length_set, mkI_len]; omega), List.getElem?_eq_none (by rw [mkI_len]; omega)]
theorem OwnI.set {W : World} {B g cap n j : Nat} {l : List Int} {x : Int} (h : OwnI W B (.slice (some ⟨g, 0, Option.none⟩) n cap) l) : OwnI (W.setCell ⟨g, j, Option.none⟩ (.int .i64 x)) B (.slice (some ⟨g, 0, Option.none⟩) n cap) (l.set j x) := by
  obtain ⟨h1, h2⟩ := h
  rcases h2 with ⟨h2, _⟩ | ⟨g', cap', cur, e, hB, hg, h3, h4, h5, h6⟩
  · cases h2
  · injection e with e1 e2 e3
    injection e1 with e1
    injection e1 with e1
    subst e1; subst e2; subst e3
    refine ⟨by simp, .inr ⟨g, cap, cur.setIfInBounds j (.int .i64 x), by rw [List.length_set], hB, ?_, by rw [List.length_set]; exact h3, h4, by rw [Array.size_setIfInBounds]; exact h5, ?_⟩⟩
    · simp [World.setCell, Array.getElem?_modify, hg]
    · rw [List.length_set, Array.toList_setIfInBounds, List.take_set, h6, List.map_set]
theorem OwnI.frozen {W : World} {B g cap n : Nat} {l : List Int} (h : OwnI W B (.slice (some ⟨g, 0, Option.none⟩) n cap) l) (i : Nat) : W.frozen? ⟨g, i, Option.none⟩ = false := by
  rcases h.2 with ⟨h2, _⟩ | ⟨g', cap', cur, e, hB, hg, _⟩
  · cases h2
  · injection e with e1 e2 e3
    injection e1 with e1
    injection e1 with e1
    subst e1
    simp [World.frozen?, hg]
theorem val64' {a b : Int} (h : a = b) : Ending.returned (.int .i64 a) = .returned (.int .i64 b) := by rw [h]

end Go.Proofs.YtlknncmnphbpkaaGreatDoor.GriI

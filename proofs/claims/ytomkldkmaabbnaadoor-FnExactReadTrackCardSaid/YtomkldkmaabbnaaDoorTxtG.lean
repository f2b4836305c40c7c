/- Lists of int64 of the laws: copies, comparisons; the reference's text of a list. -/
import Derived.Test.YtomkldkmaabbnaaDoorTxtC
import Derived.BigQuiet
import Derived.Lib.Join
import Derived.Deep.QuietTactic
namespace Go.Proofs.YtomkldkmaabbnaaDoor.TxtG
open Go.RowKit Go.Proofs.YtomkldkmaabbnaaDoor.Plain Go.Proofs.YtomkldkmaabbnaaDoor.TxtA Go.Proofs.YtomkldkmaabbnaaDoor.TxtB Go.Proofs.YtomkldkmaabbnaaDoor.TxtC Go.Proofs.YtomkldkmaabbnaaDoor.WalkA Go.Proofs.YtomkldkmaabbnaaDoor.WalkC

def iAt (l : List Int) (i : Nat) : Int := l.getD i 0
/-- A list lies behind a slice, its block below B. -/
def Ints (w : World) (B : Nat) (A : Option Addr) (n : Nat) (l : List Int) : Prop :=
  l.length = n ∧ (∀ i, i < n → -9223372036854775808 ≤ iAt l i ∧ iAt l i ≤ 9223372036854775807) ∧ (0 < n → ∃ b off, A = some ⟨b, off, none⟩ ∧ b < B ∧ ∀ i, i < n → w.cell? ⟨b, off + i, none⟩ = some (.int .i64 (iAt l i)))
theorem Ints.below {w w' : World} {B B' : Nat} {A : Option Addr} {n : Nat} {l : List Int} (h : Ints w B A n l) (hb : Below B w w') (hB : B ≤ B') : Ints w' B' A n l :=
  ⟨h.1, h.2.1, fun hn => by
    obtain ⟨b, off, e, hlt, hc⟩ := h.2.2 hn
    exact ⟨b, off, e, Nat.lt_of_lt_of_le hlt hB, fun i hi => (hb.cell (p := ⟨b, off + i, none⟩) hlt).trans (hc i hi)⟩⟩
def RowAt (w : World) (g : Nat) (t : TypeId) (cs : Array Value) : Prop := w.heap[g]? = some (.cells cs t (0, 0))
theorem RowAt.lt {w : World} {g : Nat} {t : TypeId} {cs : Array Value} (h : RowAt w g t cs) : g < w.heap.size := by
  unfold RowAt at h
  exact (Array.getElem?_eq_some_iff.1 h).1
theorem RowAt.cell {w : World} {g : Nat} {t : TypeId} {cs : Array Value} (h : RowAt w g t cs) (i : Nat) : w.cell? ⟨g, i, none⟩ = cs[i]? := cell_of_row w g i cs t (0, 0) h
theorem RowAt.frozen {w : World} {g : Nat} {t : TypeId} {cs : Array Value} (h : RowAt w g t cs) (i : Nat) : w.frozen? ⟨g, i, none⟩ = false := by
  unfold RowAt at h
  simp [World.frozen?, h]
theorem RowAt.new (w : World) (t : TypeId) (cs : Array Value) : RowAt (w.alloc (.cells cs t)) w.heap.size t cs := heap_alloc_new w _
theorem RowAt.store {w : World} {g : Nat} {t : TypeId} {cs : Array Value} (h : RowAt w g t cs) (i : Nat) (u : Value) : RowAt (w.setCell ⟨g, i, none⟩ u) g t (cs.setIfInBounds i u) := by
  unfold RowAt at h ⊢
  simp [World.setCell, Array.getElem?_modify, h]
theorem info_i64 : (Tryd.prog.info? 2).map (fun i => (i.zero, i.size, i.bytes)) = some (some (.int .i64 0), 1, 8) := by kernel_rfl
def FilledI (cs : Array Value) (l : List Int) (k : Nat) : Prop := cs.size = l.length ∧ ∀ j, j < k → cs[j]? = some (.int .i64 (iAt l j))
theorem FilledI.step {cs : Array Value} {l : List Int} {k : Nat} (h : FilledI cs l k) (hk : k < l.length) : FilledI (cs.setIfInBounds k (.int .i64 (iAt l k))) l (k + 1) := by
  refine ⟨by simp [h.1], fun j hj => ?_⟩
  by_cases e : j = k
  · subst e; simp [h.1, hk]
  · rw [Array.getElem?_setIfInBounds_ne (by omega)]; exact h.2 j (by omega)
theorem FilledI.ints {cs : Array Value} {l : List Int} {w : World} {g : Nat} {t : TypeId} (h : FilledI cs l l.length) (hr : RowAt w g t cs) (hz : ∀ i, i < l.length → -9223372036854775808 ≤ iAt l i ∧ iAt l i ≤ 9223372036854775807) : Ints w w.heap.size (some ⟨g, 0, none⟩) l.length l :=
  ⟨rfl, hz, fun _ => ⟨g, 0, rfl, hr.lt, fun i hi => by rw [Nat.zero_add, hr.cell]; exact h.2 i hi⟩⟩

/-- A new copy. -/
def NewInts (w : World) (l : List Int) (e : Ending) (w' : World) : Prop :=
  ∃ g, e = .returned (.slice (some ⟨g, 0, none⟩) l.length l.length) ∧ Ints w' w'.heap.size (some ⟨g, 0, none⟩) l.length l ∧ Below w.heap.size w w'
/-- Some number of a list has no text. -/
def badP (x : Int) : Bool := !inB x (-1000000000000) 1000000000000
def bad (l : List Int) : Bool := l.any badP
theorem bad_at {l : List Int} {k : Nat} (hk : k < l.length) (h : inB (iAt l k) (-1000000000000) 1000000000000 = false) : bad l = true := by
  unfold bad
  rw [List.any_eq_true]
  refine ⟨l[k], List.getElem_mem hk, ?_⟩
  have e : iAt l k = l[k] := by simp [iAt, List.getD_eq_getElem?_getD, List.getElem?_eq_getElem hk]
  rw [e] at h
  unfold badP
  rw [h]
  rfl
theorem bad_none {l : List Int} (h : ∀ k, k < l.length → inB (iAt l k) (-1000000000000) 1000000000000 = true) : bad l = false := by
  unfold bad
  rw [List.any_eq_false]
  intro x hx
  obtain ⟨k, hk, rfl⟩ := List.getElem_of_mem hx
  have e : iAt l k = l[k] := by simp [iAt, List.getD_eq_getElem?_getD, List.getElem?_eq_getElem hk]
  have := h k hk
  rw [e] at this
  unfold badP
  rw [this]
  decide
def fits (l : List Int) : Bool := !bad l && decide ((l.length : Int) ≤ 64)
def jn (l : List Int) : Nat → ByteArray
  | 0 => ⟨#[]⟩
  | k + 1 => (if 0 < k then jn l k ++ ⟨#[44]⟩ else jn l k) ++ dec (iAt l k)
theorem jn_zero (l : List Int) : jn l 0 = ⟨#[]⟩ := rfl
theorem jn_first (l : List Int) : jn l 1 = ⟨#[]⟩ ++ dec (iAt l 0) := rfl
theorem jn_more (l : List Int) {k : Nat} (h : 0 < k) : jn l (k + 1) = (jn l k ++ ⟨#[44]⟩) ++ dec (iAt l k) := by
  show (if 0 < k then jn l k ++ ⟨#[44]⟩ else jn l k) ++ dec (iAt l k) = _
  rw [if_pos h]
theorem jn_size {l : List Int} (hz : ∀ i, i < l.length → -9223372036854775808 ≤ iAt l i ∧ iAt l i ≤ 9223372036854775807) : ∀ k, k ≤ l.length → (jn l k).size ≤ 22 * k
  | 0, _ => Nat.le_refl _
  | k + 1, hk => by
    have ih := jn_size hz k (by omega)
    have d := dec_size (hz k (by omega)).1 (hz k (by omega)).2
    rcases Nat.eq_zero_or_pos k with h | h
    · subst h
      rw [jn_first, ByteArray.size_append]
      show 0 + _ ≤ _
      omega
    · rw [jn_more l h, ByteArray.size_append, ByteArray.size_append]
      show (jn l k).size + 1 + _ ≤ _
      omega
theorem joinTail_snoc (sep : List UInt8) (r : List (List UInt8)) (y : List UInt8) : Lib.joinTail sep (r ++ [y]) = Lib.joinTail sep r ++ (sep ++ y) := by simp [Lib.joinTail]
theorem join_snoc (sep : List UInt8) (x : List UInt8) (r : List (List UInt8)) (y : List UInt8) : Lib.join (x :: r ++ [y]) sep = Lib.join (x :: r) sep ++ (sep ++ y) := by
  rw [List.cons_append, Lib.join_cons, Lib.join_cons, joinTail_snoc, List.append_assoc]
def textOf (l : List Int) : List UInt8 := Lib.join (l.map Lib.itoa) [44]
theorem take_next {l : List Int} {k : Nat} (hk : k < l.length) : l.take (k + 1) = l.take k ++ [iAt l k] := by
  have e : iAt l k = l[k] := by simp [iAt, List.getD_eq_getElem?_getD, List.getElem?_eq_getElem hk]
  rw [e, List.take_append_getElem]
theorem jn_text (l : List Int) : ∀ k, k < l.length → (jn l (k + 1)).data.toList = textOf (l.take (k + 1))
  | 0, hk => by
    rw [take_next hk, jn_first]
    show ([] : List UInt8) ++ _ = Lib.join [Lib.itoa (iAt l 0)] [44]
    rw [Lib.join_one]
    rfl
  | k + 1, hk => by
    have ih := jn_text l k (by omega)
    rw [take_next hk, jn_more l (by omega), ByteArray.data_append, ByteArray.data_append, Array.toList_append, Array.toList_append, ih]
    unfold textOf
    rw [List.map_append]
    obtain ⟨x, r, hx⟩ : ∃ x r, (l.take (k + 1)).map Lib.itoa = x :: r := by
      cases h : (l.take (k + 1)).map Lib.itoa with
      | nil => have := congrArg List.length h; rw [List.length_map, List.length_take, List.length_nil] at this; omega
      | cons x r => exact ⟨x, r, rfl⟩
    rw [hx, List.map_singleton, join_snoc, List.append_assoc]
    rfl
/-- The text of a list. -/
def listP (l : List Int) : ByteArray := if l.length = 0 then ⟨#[45]⟩ else ⟨(textOf l).toArray⟩
theorem jn_list {l : List Int} (h : 0 < l.length) : jn l l.length = ⟨(textOf l).toArray⟩ := by
  obtain ⟨k, hk⟩ : ∃ k, l.length = k + 1 := ⟨l.length - 1, by omega⟩
  have e := jn_text l k (by omega)
  rw [← hk, List.take_length] at e
  rw [hk] at e ⊢
  rw [← e]
def listT (l : List Int) : ByteArray := if fits l = true then listP l else ⟨#[]⟩
end Go.Proofs.YtomkldkmaabbnaaDoor.TxtG

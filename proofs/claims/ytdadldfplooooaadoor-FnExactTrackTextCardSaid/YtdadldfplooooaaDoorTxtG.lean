/- Lists of int64 of the laws: copies, comparisons; the reference's text of a list. -/
import Derived.Test.YtdadldfplooooaaDoorTxtC
import Derived.BigQuiet
import Derived.Lib.Join
import Derived.Deep.QuietTactic
namespace Go.Proofs.YtdadldfplooooaaDoor.TxtG
open Go.RowKit Go.Proofs.YtdadldfplooooaaDoor.Plain Go.Proofs.YtdadldfplooooaaDoor.TxtA Go.Proofs.YtdadldfplooooaaDoor.TxtB Go.Proofs.YtdadldfplooooaaDoor.TxtC Go.Proofs.YtdadldfplooooaaDoor.WalkA Go.Proofs.YtdadldfplooooaaDoor.WalkC

def iAt (l : List Int) (i : Nat) : Int := l.getD i 0
/-- A list lies behind a slice, its block below B. -/
def Ints (w : World) (B : Nat) (A : Option Addr) (n : Nat) (l : List Int) : Prop :=
  l.length = n ∧ (∀ i, i < n → -9223372036854775808 ≤ iAt l i ∧ iAt l i ≤ 9223372036854775807) ∧ (0 < n → ∃ b off, A = some ⟨b, off, none⟩ ∧ b < B ∧ ∀ i, i < n → w.cell? ⟨b, off + i, none⟩ = some (.int .i64 (iAt l i)))
theorem Ints.below {w w' : World} {B B' : Nat} {A : Option Addr} {n : Nat} {l : List Int} (h : Ints w B A n l) (hb : Below B w w') (hB : B ≤ B') : Ints w' B' A n l :=
  ⟨h.1, h.2.1, fun hn => by
    obtain ⟨b, off, e, hlt, hc⟩ := h.2.2 hn
    exact ⟨b, off, e, Nat.lt_of_lt_of_le hlt hB, fun i hi => (hb.cell (p := ⟨b, off + i, none⟩) hlt).trans (hc i hi)⟩⟩
def RowAt (w : World) (g : Nat) (t : TypeId) (cs : Array Value) : Prop := w.heap[g]? = some (.cells cs t (0, 0))
theorem RowAt.lt {w : World} {g : Nat} {t : TypeId} {cs : Array Value} (h : RowAt w g t cs) : g < w.heap.size := by
  unfold RowAt at h
  exact (Array.getElem?_eq_some_iff.1 h).1
theorem RowAt.cell {w : World} {g : Nat} {t : TypeId} {cs : Array Value} (h : RowAt w g t cs) (i : Nat) : w.cell? ⟨g, i, none⟩ = cs[i]? := cell_of_row w g i cs t (0, 0) h
theorem RowAt.frozen {w : World} {g : Nat} {t : TypeId} {cs : Array Value} (h : RowAt w g t cs) (i : Nat) : w.frozen? ⟨g, i, none⟩ = false := by
  unfold RowAt at h
  simp [World.frozen?, h]
theorem RowAt.new (w : World) (t : TypeId) (cs : Array Value) : RowAt (w.alloc (.cells cs t)) w.heap.size t cs := heap_alloc_new w _
theorem RowAt.store {w : World} {g : Nat} {t : TypeId} {cs : Array Value} (h : RowAt w g t cs) (i : Nat) (u : Value) : RowAt (w.setCell ⟨g, i, none⟩ u) g t (cs.setIfInBounds i u) := by
  unfold RowAt at h ⊢
  simp [World.setCell, Array.getElem?_modify, h]
theorem info_i64 : (Tryd.prog.info? 2).map (fun i => (i.zero, i.size, i.bytes)) = some (some (.int .i64 0), 1, 8) := by kernel_rfl
def FilledI (cs : Array Value) (l : List Int) (k : Nat) : Prop := cs.size = l.length ∧ ∀ j, j < k → cs[j]? = some (.int .i64 (iAt l j))
theorem FilledI.step {cs : Array Value} {l : List Int} {k : Nat} (h : FilledI cs l k) (hk : k < l.length) : FilledI (cs.setIfInBounds k (.int .i64 (iAt l k))) l (k + 1) := by
  refine ⟨by simp [h.1], fun j hj => ?_⟩
  by_cases e : j = k
  · subst e; simp [h.1, hk]
  · rw [Array.getElem?_setIfInBounds_ne (by omega)]; exact h.2 j (by omega)
theorem FilledI.ints {cs : Array Value} {l : List Int} {w : World} {g : Nat} {t : TypeId} (h : FilledI cs l l.length) (hr : RowAt w g t cs) (hz : ∀ i, i < l.length → -9223372036854775808 ≤ iAt l i ∧ iAt l i ≤ 9223372036854775807) : Ints w w.heap.size (some ⟨g, 0, none⟩) l.length l :=
  ⟨rfl, hz, fun _ => ⟨g, 0, rfl, hr.lt, fun i hi => by rw [Nat.zero_add, hr.cell]; exact h.2 i hi⟩⟩

/-- A new copy. -/
def NewInts (w : World) (l : List Int) (e : Ending) (w' : World) : Prop :=
  ∃ g, e = .returned (.slice (some ⟨g, 0, none⟩) l.length l.length) ∧ Ints w' w'.heap.size (some ⟨g, 0, none⟩) l.length l ∧ Below w.heap.size w w'
theorem eqInts_any (A A' : Option Addr) (n c c' : Nat) (l : List Int) (w : World) (hs : Ints w w.heap.size A n l) (hs' : Ints w w.heap.size A' n l) (hn : n ≤ 1048576) :
    Calls Tryd.prog 22 #[.slice A n c, .slice A' n c'] w fun e w' => e = .returned (.bool true) ∧ ∃ m, w' = w.drewN m := by
  have HS := Lib.hid hs
  have HS' := Lib.hid hs'
  obtain ⟨rfl, _⟩ := hs
  clear hs'
  go_enter Tryd.func22, Tryd.ntmps22
  go_wp2
  go_loopw [5] (fun i wr => ∃ k m : Nat, k ≤ l.length ∧ i = .int .i64 k ∧ wr = w.drewN m) (fun i _ => l.length - (intOf i).toNat)
  case atStart => exact ⟨0, 0, Nat.zero_le _, rfl, rfl⟩
  case round =>
    obtain ⟨k, m, hk, rfl, rfl⟩ := hrel
    by_cases hlt : k < l.length
    · obtain ⟨b, off, rfl, hb, hc⟩ := HS.out.2.2 (by omega)
      obtain ⟨b', off', rfl, hb', hc'⟩ := HS'.out.2.2 (by omega)
      have c1 := hc k hlt
      have c2 := hc' k hlt
      clear hc hc'
      go_wp2
      go_quiet (fail)
      go_wp2
      go_roundw
      case rel => exact ⟨k + 1, _, by omega, by go_num, rfl⟩
      case measure => simp [intOf]; omega
    · have e : k = l.length := by omega
      subst e
      go_wp2
      go_ret
      exact ⟨rfl, _, rfl⟩

/-- Some number of a list has no text. -/
def badP (x : Int) : Bool := !inB x (-1000000000000) 1000000000000
def bad (l : List Int) : Bool := l.any badP
theorem bad_at {l : List Int} {k : Nat} (hk : k < l.length) (h : inB (iAt l k) (-1000000000000) 1000000000000 = false) : bad l = true := by
  unfold bad
  rw [List.any_eq_true]
  refine ⟨l[k], List.getElem_mem hk, ?_⟩
  have e : iAt l k = l[k] := by simp [iAt, List.getD_eq_getElem?_getD, List.getElem?_eq_getElem hk]
  rw [e] at h
  unfold badP
  rw [h]
  rfl
theorem bad_none {l : List Int} (h : ∀ k, k < l.length → inB (iAt l k) (-1000000000000) 1000000000000 = true) : bad l = false := by
  unfold bad
  rw [List.any_eq_false]
  intro x hx
  obtain ⟨k, hk, rfl⟩ := List.getElem_of_mem hx
  have e : iAt l k = l[k] := by simp [iAt, List.getD_eq_getElem?_getD, List.getElem?_eq_getElem hk]
  have := h k hk
  rw [e] at this
  unfold badP
  rw [this]
  decide
def fits (l : List Int) : Bool := !bad l && decide ((l.length : Int) ≤ 64)
def jn (l : List Int) : Nat → ByteArray
  | 0 => ⟨#[]⟩
  | k + 1 => (if 0 < k then jn l k ++ ⟨#[44]⟩ else jn l k) ++ dec (iAt l k)
theorem jn_zero (l : List Int) : jn l 0 = ⟨#[]⟩ := rfl
theorem jn_first (l : List Int) : jn l 1 = ⟨#[]⟩ ++ dec (iAt l 0) := rfl
theorem jn_more (l : List Int) {k : Nat} (h : 0 < k) : jn l (k + 1) = (jn l k ++ ⟨#[44]⟩) ++ dec (iAt l k) := by
  show (if 0 < k then jn l k ++ ⟨#[44]⟩ else jn l k) ++ dec (iAt l k) = _
  rw [if_pos h]
theorem jn_size {l : List Int} (hz : ∀ i, i < l.length → -9223372036854775808 ≤ iAt l i ∧ iAt l i ≤ 9223372036854775807) : ∀ k, k ≤ l.length → (jn l k).size ≤ 22 * k
  | 0, _ => Nat.le_refl _
  | k + 1, hk => by
    have ih := jn_size hz k (by omega)
    have d := dec_size (hz k (by omega)).1 (hz k (by omega)).2
    rcases Nat.eq_zero_or_pos k with h | h
    · subst h
      rw [jn_first, ByteArray.size_append]
      show 0 + _ ≤ _
      omega
    · rw [jn_more l h, ByteArray.size_append, ByteArray.size_append]
      show (jn l k).size + 1 + _ ≤ _
      omega
theorem joinTail_snoc (sep : List UInt8) (r : List (List UInt8)) (y : List UInt8) : Lib.joinTail sep (r ++ [y]) = Lib.joinTail sep r ++ (sep ++ y) := by simp [Lib.joinTail]
theorem join_snoc (sep : List UInt8) (x : List UInt8) (r : List (List UInt8)) (y : List UInt8) : Lib.join (x :: r ++ [y]) sep = Lib.join (x :: r) sep ++ (sep ++ y) := by
  rw [List.cons_append, Lib.join_cons, Lib.join_cons, joinTail_snoc, List.append_assoc]
def textOf (l : List Int) : List UInt8 := Lib.join (l.map Lib.itoa) [44]
theorem take_next {l : List Int} {k : Nat} (hk : k < l.length) : l.take (k + 1) = l.take k ++ [iAt l k] := by
  have e : iAt l k = l[k] := by simp [iAt, List.getD_eq_getElem?_getD, List.getElem?_eq_getElem hk]
  rw [e, List.take_append_getElem]
theorem jn_text (l : List Int) : ∀ k, k < l.length → (jn l (k + 1)).data.toList = textOf (l.take (k + 1))
  | 0, hk => by
    rw [take_next hk, jn_first]
    show ([] : List UInt8) ++ _ = Lib.join [Lib.itoa (iAt l 0)] [44]
    rw [Lib.join_one]
    rfl
  | k + 1, hk => by
    have ih := jn_text l k (by omega)
    rw [take_next hk, jn_more l (by omega), ByteArray.data_append, ByteArray.data_append, Array.toList_append, Array.toList_append, ih]
    unfold textOf
    rw [List.map_append]
    obtain ⟨x, r, hx⟩ : ∃ x r, (l.take (k + 1)).map Lib.itoa = x :: r := by
      cases h : (l.take (k + 1)).map Lib.itoa with
      | nil => have := congrArg List.length h; rw [List.length_map, List.length_take, List.length_nil] at this; omega
      | cons x r => exact ⟨x, r, rfl⟩
    rw [hx, List.map_singleton, join_snoc, List.append_assoc]
    rfl
/-- The text of a list. -/
def listP (l : List Int) : ByteArray := if l.length = 0 then ⟨#[45]⟩ else ⟨(textOf l).toArray⟩
theorem jn_list {l : List Int} (h : 0 < l.length) : jn l l.length = ⟨(textOf l).toArray⟩ := by
  obtain ⟨k, hk⟩ : ∃ k, l.length = k + 1 := ⟨l.length - 1, by omega⟩
  have e := jn_text l k (by omega)
  rw [← hk, List.take_length] at e
  rw [hk] at e ⊢
  rw [← e]
theorem l01List_any (A : Option Addr) (n c : Nat) (l : List Int) (w : World) (hs : Ints w w.heap.size A n l) (hn : n ≤ 64) :
    Calls Tryd.prog 58 #[.slice A n c] w fun e w' => e = .returned (.string (listP l)) ∧ Below w.heap.size w w' := by
  have HS := Lib.hid hs
  obtain ⟨rfl, hz, _⟩ := hs
  have HZ := Lib.hid hz
  clear hz
  unfold listP
  rcases Nat.eq_zero_or_pos l.length with h0 | h0
  · rw [if_pos h0]
    rw [h0] at HS hn ⊢
    go_enter Tryd.func58, Tryd.ntmps58
    go_wp2
    go_ret
    exact ⟨rfl, Below.refl _ _⟩
  · rw [if_neg (by omega)]
    have HJ := Lib.hid (jn_list h0)
    have hne : ((l.length : Int) == 0) = false := by rw [beq_eq_false_iff_ne]; omega
    have hne2 : ¬ (l.length : Int) = 0 := by omega
    go_enter Tryd.func58, Tryd.ntmps58
    go_wp2
    go_loopw [3, 4] (fun s i wr => ∃ k : Nat, k ≤ l.length ∧ s = .string (jn l k) ∧ i = .int .i64 k ∧ Hid (Below w.heap.size w wr)) (fun _ i _ => l.length - (intOf i).toNat)
    case atStart => exact ⟨0, Nat.zero_le _, rfl, rfl, Below.refl _ _⟩
    case round =>
      obtain ⟨k, hk, rfl, rfl, hbr⟩ := hrel
      by_cases hlt : k < l.length
      · obtain ⟨b, off, rfl, hb, hc⟩ := (HS.out.below hbr.out hbr.out.size).2.2 h0
        have c1 := hc k hlt
        have hds := dec_size (HZ.out k hlt).1 (HZ.out k hlt).2
        have hjs := jn_size HZ.out k hk
        have HD := Lib.hid (fun W => specDec_any (iAt l k) (HZ.out k hlt).1 (HZ.out k hlt).2 W)
        have HM := Lib.hid (fun h => jn_more l (k := k) h)
        have HF := Lib.hid (fun (h : k = 0) => (show jn l (k + 1) = jn l k ++ dec (iAt l k) by subst h; rfl))
        clear hc
        generalize dec (iAt l k) = d at *
        generalize iAt l k = x at *
        generalize jn l k = P at *
        have hj22 : P.size ≤ 1500 := by omega
        by_cases hk0 : 0 < k
        · have hk1 : (0 : Int) < (k : Int) := by omega
          have HM2 := Lib.hid (HM.out hk0)
          clear HM HF hjs
          go_wp2_with fail
          refine (HD.out _).mono ?_
          rintro e w1 ⟨rfl, hb1⟩
          have HB1 := Lib.hid (hbr.out.trans (hb1.mono hbr.out.size))
          clear hb1
          go_wp2_with fail
          go_roundw
          case rel => exact ⟨k + 1, by omega, by rw [HM2.out], by go_num, HB1.out⟩
          case measure => simp [intOf]; omega
        · have e : k = 0 := by omega
          have HM2 := Lib.hid (HF.out e)
          have hk1 : ¬ (0 : Int) < (k : Int) := by omega
          clear HM HF hjs e
          go_wp2_with fail
          refine (HD.out _).mono ?_
          rintro e w1 ⟨rfl, hb1⟩
          have HB1 := Lib.hid (hbr.out.trans (hb1.mono hbr.out.size))
          clear hb1
          go_wp2_with fail
          go_roundw
          case rel => exact ⟨k + 1, by omega, by rw [HM2.out], by go_num, HB1.out⟩
          case measure => simp [intOf]; omega
      · have e : k = l.length := by omega
        subst e
        rw [HJ.out]
        go_wp2
        go_ret
        exact ⟨rfl, hbr.out⟩
def listT (l : List Int) : ByteArray := if fits l = true then listP l else ⟨#[]⟩
end Go.Proofs.YtdadldfplooooaaDoor.TxtG

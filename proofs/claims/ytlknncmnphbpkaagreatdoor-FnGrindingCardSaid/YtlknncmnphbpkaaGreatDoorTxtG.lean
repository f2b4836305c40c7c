/- Lists of int64 of the laws: copies, comparisons; the reference's text of a list. -/
import Derived.Test.YtlknncmnphbpkaaGreatDoorTxtC
import Derived.BigQuiet
import Derived.Lib.Join
import Derived.Deep.QuietTactic
namespace Go.Proofs.YtlknncmnphbpkaaGreatDoor.TxtG
open Go.RowKit Go.Proofs.YtlknncmnphbpkaaGreatDoor.Plain Go.Proofs.YtlknncmnphbpkaaGreatDoor.TxtA Go.Proofs.YtlknncmnphbpkaaGreatDoor.TxtB Go.Proofs.YtlknncmnphbpkaaGreatDoor.TxtC Go.Proofs.YtlknncmnphbpkaaGreatDoor.WalkA Go.Proofs.YtlknncmnphbpkaaGreatDoor.WalkC

def iAt (l : List Int) (i : Nat) : Int := l.getD i 0
/-- A list lies behind a slice, its block below B. -/
def Ints (w : World) (B : Nat) (A : Option Addr) (n : Nat) (l : List Int) : Prop :=
  l.length = n ∧ (∀ i, i < n → -9223372036854775808 ≤ iAt l i ∧ iAt l i ≤ 9223372036854775807) ∧ (0 < n → ∃ b off, A = some ⟨b, off, none⟩ ∧ b < B ∧ ∀ i, i < n → w.cell? ⟨b, off + i, none⟩ = some (.int .i64 (iAt l i)))
theorem Ints.below {w w' : World} {B B' : Nat} {A : Option Addr} {n : Nat} {l : List Int} (h : Ints w B A n l) (hb : Below B w w') (hB : B ≤ B') : Ints w' B' A n l :=
  ⟨h.1, h.2.1, fun hn => by
    obtain ⟨b, off, e, hlt, hc⟩ := h.2.2 hn
    exact ⟨b, off, e, Nat.lt_of_lt_of_le hlt hB, fun i hi => (hb.cell (p := ⟨b, off + i, none⟩) hlt).trans (hc i hi)⟩⟩
def RowAt (w : World) (g : Nat) (t : TypeId) (cs : Array Value) : Prop := w.heap[g]? = some (.cells cs t (0, 0))
theorem RowAt.lt {w : World} {g : Nat} {t : TypeId} {cs : Array Value} (h : RowAt w g t cs) : g < w.heap.size := by
  unfold RowAt at h
  exact (Array.getElem?_eq_some_iff.1 h).1
theorem RowAt.cell {w : World} {g : Nat} {t : TypeId} {cs : Array Value} (h : RowAt w g t cs) (i : Nat) : w.cell? ⟨g, i, none⟩ = cs[i]? := cell_of_row w g i cs t (0, 0) h
theorem RowAt.frozen {w : World} {g : Nat} {t : TypeId} {cs : Array Value} (h : RowAt w g t cs) (i : Nat) : w.frozen? ⟨g, i, none⟩ = false := by
  unfold RowAt at h
  simp [World.frozen?, h]
theorem RowAt.new (w : World) (t : TypeId) (cs : Array Value) : RowAt (w.alloc (.cells cs t)) w.heap.size t cs := heap_alloc_new w _
theorem RowAt.store {w : World} {g : Nat} {t : TypeId} {cs : Array Value} (h : RowAt w g t cs) (i : Nat) (u : Value) : RowAt (w.setCell ⟨g, i, none⟩ u) g t (cs.setIfInBounds i u) := by
  unfold RowAt at h ⊢
  simp [World.setCell, Array.getElem?_modify, h]
theorem info_i64 : (Tryz.prog.info? 2).map (fun i => (i.zero, i.size, i.bytes)) = some (some (.int .i64 0), 1, 8) := by kernel_rfl
def FilledI (cs : Array Value) (l : List Int) (k : Nat) : Prop := cs.size = l.length ∧ ∀ j, j < k → cs[j]? = some (.int .i64 (iAt l j))
theorem FilledI.step {cs : Array Value} {l : List Int} {k : Nat} (h : FilledI cs l k) (hk : k < l.length) : FilledI (cs.setIfInBounds k (.int .i64 (iAt l k))) l (k + 1) := by
  refine ⟨by simp [h.1], fun j hj => ?_⟩
  by_cases e : j = k
  · subst e; simp [h.1, hk]
  · rw [Array.getElem?_setIfInBounds_ne (by omega)]; exact h.2 j (by omega)
theorem FilledI.ints {cs : Array Value} {l : List Int} {w : World} {g : Nat} {t : TypeId} (h : FilledI cs l l.length) (hr : RowAt w g t cs) (hz : ∀ i, i < l.length → -9223372036854775808 ≤ iAt l i ∧ iAt l i ≤ 9223372036854775807) : Ints w w.heap.size (some ⟨g, 0, none⟩) l.length l :=
  ⟨rfl, hz, fun _ => ⟨g, 0, rfl, hr.lt, fun i hi => by rw [Nat.zero_add, hr.cell]; exact h.2 i hi⟩⟩

/-- A new copy. -/
def NewInts (w : World) (l : List Int) (e : Ending) (w' : World) : Prop :=
  ∃ g, e = .returned (.slice (some ⟨g, 0, none⟩) l.length l.length) ∧ Ints w' w'.heap.size (some ⟨g, 0, none⟩) l.length l ∧ Below w.heap.size w w'
/-- Some number of a list has no text. -/
def badP (x : Int) : Bool := !inB x (-1000000000000) 1000000000000
def bad (l : List Int) : Bool := l.any badP
theorem bad_at {l : List Int} {k : Nat} (hk : k < l.length) (h : inB (iAt l k) (-1000000000000) 1000000000000 = false) : bad l = true := by
  unfold bad
  rw [List.any_eq_true]
  refine ⟨l[k], List.getElem_mem hk, ?_⟩
  have e : iAt l k = l[k] := by simp [iAt, List.getD_eq_getElem?_getD, List.getElem?_eq_getElem hk]
  rw [e] at h
  unfold badP
  rw [h]
  rfl
theorem bad_none {l : List Int} (h : ∀ k, k < l.length → inB (iAt l k) (-1000000000000) 1000000000000 = true) : bad l = false := by
  unfold bad
  rw [List.any_eq_false]
  intro x hx
  obtain ⟨k, hk, rfl⟩ := List.getElem_of_mem hx
  have e : iAt l k = l[k] := by simp [iAt, List.getD_eq_getElem?_getD, List.getElem?_eq_getElem hk]
  have := h k hk
  rw [e] at this
  unfold badP
  rw [this]
  decide
def fits (l : List Int) : Bool := !bad l && decide ((l.length : Int) ≤ 64)
def jn (l : List Int) : Nat → ByteArray
  | 0 => ⟨#[]⟩
  | k + 1 => (if 0 < k then jn l k ++ ⟨#[44]⟩ else jn l k) ++ dec (iAt l k)
theorem jn_zero (l : List Int) : jn l 0 = ⟨#[]⟩ := rfl
theorem jn_first (l : List Int) : jn l 1 = ⟨#[]⟩ ++ dec (iAt l 0) := rfl
theorem jn_more (l : List Int) {k : Nat} (h : 0 < k) : jn l (k + 1) = (jn l k ++ ⟨#[44]⟩) ++ dec (iAt l k) := by
  show (if 0 < k then jn l k ++ ⟨#[44]⟩ else jn l k) ++ dec (iAt l k) = _
  rw [if_pos h]
theorem jn_size {l : List Int} (hz : ∀ i, i < l.length → -9223372036854775808 ≤ iAt l i ∧ iAt l i ≤ 9223372036854775807) : ∀ k, k ≤ l.length → (jn l k).size ≤ 22 * k
  | 0, _ => Nat.le_refl _
  | k + 1, hk => by
    have ih := jn_size hz k (by omega)
    have d := dec_size (hz k (by omega)).1 (hz k (by omega)).2
    rcases Nat.eq_zero_or_pos k with h | h
    · subst h
      rw [jn_first, ByteArray.size_append]
      show 0 + _ ≤ _
      omega
    · rw [jn_more l h, ByteArray.size_append, ByteArray.size_append]
      show (jn l k).size + 1 + _ ≤ _
      omega
theorem joinTail_snoc (sep : List UInt8) (r : List (List UInt8)) (y : List UInt8) : Lib.joinTail sep (r ++ [y]) = Lib.joinTail sep r ++ (sep ++ y) := by simp [Lib.joinTail]
theorem join_snoc (sep : List UInt8) (x : List UInt8) (r : List (List UInt8)) (y : List UInt8) : Lib.join (x :: r ++ [y]) sep = Lib.join (x :: r) sep ++ (sep ++ y) := by
  rw [List.cons_append, Lib.join_cons, Lib.join_cons, joinTail_snoc, List.append_assoc]
def textOf (l : List Int) : List UInt8 := Lib.join (l.map Lib.itoa) [44]
theorem take_next {l : List Int} {k : Nat} (hk : k < l.length) : l.take (k + 1) = l.take k ++ [iAt l k] := by
  have e : iAt l k = l[k] := by simp [iAt, List.getD_eq_getElem?_getD, List.getElem?_eq_getElem hk]
  rw [e, List.take_append_getElem]
theorem jn_text (l : List Int) : ∀ k, k < l.length → (jn l (k + 1)).data.toList = textOf (l.take (k + 1))
  | 0, hk => by
    rw [take_next hk, jn_first]
    show ([] : List UInt8) ++ _ = Lib.join [Lib.itoa (iAt l 0)] [44]
    rw [Lib.join_one]
    rfl
  | k + 1, hk => by
    have ih := jn_text l k (by omega)
    rw [take_next hk, jn_more l (by omega), ByteArray.data_append, ByteArray.data_append, Array.toList_append, Array.toList_append, ih]
    unfold textOf
    rw [List.map_append]
    obtain ⟨x, r, hx⟩ : ∃ x r, (l.take (k + 1)).map Lib.itoa = x :: r := by
      cases h : (l.take (k + 1)).map Lib.itoa with
      | nil => have := congrArg List.length h; rw [List.length_map, List.length_take, List.length_nil] at this; omega
      | cons x r => exact ⟨x, r, rfl⟩
    rw [hx, List.map_singleton, join_snoc, List.append_assoc]
    rfl
/-- The text of a list. -/
def listP (l : List Int) : ByteArray := if l.length = 0 then ⟨#[45]⟩ else ⟨(textOf l).toArray⟩
theorem jn_list {l : List Int} (h : 0 < l.length) : jn l l.length = ⟨(textOf l).toArray⟩ := by
  obtain ⟨k, hk⟩ : ∃ k, l.length = k + 1 := ⟨l.length - 1, by omega⟩
  have e := jn_text l k (by omega)
  rw [← hk, List.take_length] at e
  rw [hk] at e ⊢
  rw [← e]
def listT (l : List Int) : ByteArray := if fits l = true then listP l else ⟨#[]⟩
end Go.Proofs.YtlknncmnphbpkaaGreatDoor.TxtG
/- The program's text of a list. -/
namespace Go.Proofs.YtlknncmnphbpkaaGreatDoor.TxtH
open Go.RowKit Go.Proofs.YtlknncmnphbpkaaGreatDoor.Plain Go.Proofs.YtlknncmnphbpkaaGreatDoor.TxtA Go.Proofs.YtlknncmnphbpkaaGreatDoor.TxtB Go.Proofs.YtlknncmnphbpkaaGreatDoor.TxtC Go.Proofs.YtlknncmnphbpkaaGreatDoor.TxtG Go.Proofs.YtlknncmnphbpkaaGreatDoor.WalkA Go.Proofs.YtlknncmnphbpkaaGreatDoor.WalkC

theorem listClosure_any (x : Int) (w : World) : Calls Tryz.prog 65 #[.int .i64 x] w fun e w' => e = .returned (.bool (badP x)) ∧ w = w' := by
  have HV := Lib.hid (fun W => isValue_any x W)
  unfold badP
  go_enter Tryz.func65, Tryz.ntmps65
  go_wp2_with fail
  refine (HV.out _).mono ?_
  rintro e w1 ⟨rfl, rfl⟩
  go_wp2_with fail
  go_ret
  exact ⟨rfl, rfl⟩
theorem contains_any (A : Option Addr) (n c : Nat) (l : List Int) (w : World) (hs : Ints w w.heap.size A n l) (hn : n ≤ 2097152) :
    Calls Tryz.prog 64 #[.slice A n c, .func (.func 65) #[] #[]] w fun e w' => e = .returned (.bool (bad l)) ∧ ∃ q, w' = w.drewN q := by
  obtain ⟨rfl, _, hc⟩ := hs
  rcases Nat.eq_zero_or_pos l.length with h0 | h0
  · have e : l = [] := List.length_eq_zero_iff.1 h0
    subst e
    refine (Tryz.slices_ContainsFunc_empty (α := Int) A c _ w).mono ?_
    rintro e w1 ⟨rfl, rfl⟩
    exact ⟨rfl, 0, rfl⟩
  · obtain ⟨b, off, rfl, hb, hcc⟩ := hc h0
    refine (Tryz.slices_ContainsFunc (α := Int) (Value.int .i64) badP 65 #[] (enters_of Tryz.func65 (by kernel_rfl) rfl) b off l.length c l w (fun W x _ => (listClosure_any x W).mono fun e w' h => ⟨h.1, 0, h.2.symm⟩) (Nat.le_refl _) (by omega) (fun j hj => by
      rw [hcc j hj]
      congr 2
      simp [iAt, List.getD_eq_getElem?_getD, List.getElem?_eq_getElem hj])).mono ?_
    rintro e w1 ⟨rfl, h⟩
    rw [List.take_length]
    exact ⟨rfl, h⟩

theorem info_str : (Tryz.prog.info? 9).map (fun i => (i.zero, i.size, i.bytes)) = some (some (.string ByteArray.empty), 1, 16) := by kernel_rfl
/-- Texts of the call's own, from block B on. -/
def OwnS (W : World) (B : Nat) (v : Value) (l : List ByteArray) : Prop := W.ownsRow B 9 1 v l.length (l.map Value.string)
theorem OwnS.snoc {W : World} {B : Nat} {v : Value} {l : List ByteArray} {x : ByteArray} (h : W.ownsRow B 9 1 v (l.length + 1) (l.map Value.string ++ [.string x])) : OwnS W B v (l ++ [x]) := by
  unfold OwnS
  rw [List.map_append, List.length_append]
  exact h
theorem OwnS.snoc' {W : World} {B k : Nat} {v : Value} {l : List ByteArray} {x : ByteArray} (hl : l.length = k) (h : W.ownsRow B 9 1 v (k + 1) (l.map Value.string ++ [.string x])) : OwnS W B v (l ++ [x]) := by
  subst hl
  exact OwnS.snoc h
theorem OwnS.below {W W' : World} {B : Nat} {v : Value} {l : List ByteArray} (h : OwnS W B v l) (hb : Below W.heap.size W W') : OwnS W' B v l := by
  have hlt := World.ownsRow.lt h
  obtain ⟨h1, h2⟩ := h
  refine ⟨h1, ?_⟩
  rcases h2 with h2 | ⟨g, cap, cur, rfl, hB, hg, h3⟩
  · exact .inl h2
  · exact .inr ⟨g, cap, cur, rfl, hB, (hb.block g (hlt g rfl).2).trans hg, h3⟩
theorem OwnS.form {W : World} {B : Nat} {v : Value} {l : List ByteArray} (h : OwnS W B v l) (h0 : 0 < l.length) : ∃ g cap, v = .slice (some ⟨g, 0, none⟩) l.length cap ∧ l.length ≤ cap ∧ g < W.heap.size ∧ ∀ (j : Nat) x, l[j]? = some x → W.cell? ⟨g, 0 + j, none⟩ = some (.string x) := by
  have hlt := World.ownsRow.lt h
  have h' := h
  rcases h.2 with ⟨_, h2⟩ | ⟨g, cap, cur, rfl, hB, hg, h3, _⟩
  · omega
  · refine ⟨g, cap, rfl, h3, (hlt g rfl).2, fun j x hx => ?_⟩
    have hj := (List.getElem?_eq_some_iff.1 hx).1
    rw [Nat.zero_add, World.ownsRow.cellAt h' j (by omega), List.getElem?_map, hx]
    rfl
theorem OwnS.none (W : World) (B : Nat) : OwnS W B (.slice none 0 0) [] := ⟨rfl, .inl ⟨rfl, rfl⟩⟩
theorem texts_of (l : List Int) : (l.map dec).map (·.data.toList) = l.map Lib.itoa := by
  rw [List.map_map]
  exact List.map_congr_left fun x _ => rfl
theorem join_le {l : List Int} (hz : ∀ i, i < l.length → -9223372036854775808 ≤ iAt l i ∧ iAt l i ≤ 9223372036854775807) (h0 : 0 < l.length) (hn : l.length ≤ 64) : (textOf l).length ≤ 140737488355328 := by
  have a := jn_size hz l.length (Nat.le_refl _)
  rw [jn_list h0] at a
  have e : (ByteArray.mk (textOf l).toArray).size = (textOf l).length := by show (textOf l).toArray.size = _; simp
  omega

set_option maxRecDepth 100000 in
set_option maxHeartbeats 1000000 in
theorem implListText_any (A : Option Addr) (n c : Nat) (l : List Int) (w : World) (hs : Ints w w.heap.size A n l) (hn : n ≤ 2097152) (ht : Tab w) :
    Calls Tryz.prog 45 #[.slice A n c] w fun e w' => e = .returned (.string (listT l)) ∧ Below w.heap.size w w' := by
  have HC := Lib.hid (contains_any A n c l w hs hn)
  have b : Below w.heap.size w w := Below.refl _ _
  obtain ⟨i0, hi, hz0, hz1, hz2⟩ := info_parts info_str
  have HS := Lib.hid hs
  obtain ⟨rfl, hz, _⟩ := hs
  have HZ := Lib.hid hz
  clear hz
  unfold listT fits
  by_cases h64 : (l.length : Int) ≤ 64
  · cases hbad : bad l
    · rw [hbad] at HC
      rw [if_pos (by rw [decide_eq_true h64]; rfl)]
      unfold listP
      rcases Nat.eq_zero_or_pos l.length with h0 | h0
      · rw [if_pos h0]
        rw [h0] at HC ⊢
        clear hi hz0 hz1 hz2
        go_enter Tryz.func45, Tryz.ntmps45
        go_wp2_with fail
        refine HC.out.mono ?_
        rintro e w1 ⟨rfl, q, rfl⟩
        have hbq : Below w.heap.size w (w.drewN q) := ⟨rfl, rfl, rfl, Nat.le_refl _, fun _ _ => rfl⟩
        go_wp2_with fail
        go_ret
        exact ⟨rfl, hbq⟩
      · rw [if_neg (by omega)]
        have hne : ((l.length : Int) == 0) = false := by rw [beq_eq_false_iff_ne]; omega
        have hne2 : ¬ (l.length : Int) = 0 := by omega
        go_enter Tryz.func45, Tryz.ntmps45
        go_wp2_with fail
        refine HC.out.mono ?_
        rintro e w1 ⟨rfl, q, rfl⟩
        have hbq : Below w.heap.size w (w.drewN q) := ⟨rfl, rfl, rfl, Nat.le_refl _, fun _ _ => rfl⟩
        have HBQ := Lib.hid hbq
        clear hbq
        go_wp2_with fail
        generalize w.drewN q = W1 at *
        go_loopw [3, 18] (fun v i wr => ∃ (k : Nat) (xs : List ByteArray), k ≤ l.length ∧ xs.length = k ∧ i = .int .i64 k ∧ Hid (xs = (l.take k).map dec) ∧ Hid (Below w.heap.size w wr) ∧ Hid (OwnS wr w.heap.size v xs)) (fun _ i _ => l.length - (intOf i).toNat)
        case atStart => exact ⟨0, [], Nat.zero_le _, rfl, rfl, rfl, HBQ.out, OwnS.none _ _⟩
        case round =>
          obtain ⟨k, xs, hk, hxl, rfl, hxs, hbr, hox⟩ := hrel
          have hwr := hbr.out.size
          by_cases hlt : k < l.length
          · obtain ⟨bb, off, rfl, hb, hc⟩ := (HS.out.below hbr.out hbr.out.size).2.2 h0
            have c1 := hc k hlt
            have HD := Lib.hid (implDecimal_any (iAt l k) (HZ.out k hlt).1 (HZ.out k hlt).2 wr (ht.below hbr.out))
            have HXS : Hid (xs ++ [dec (iAt l k)] = (l.take (k + 1)).map dec) := by show xs ++ _ = _; rw [hxs.out, take_next hlt, List.map_append]; rfl
            clear hc
            generalize dec (iAt l k) = d at *
            generalize iAt l k = x at *
            go_wp2_with fail
            refine HD.out.mono ?_
            rintro e w1 ⟨rfl, hb1⟩
            have HO1 := Lib.hid (hox.out.below hb1)
            have HB1 := Lib.hid (hbr.out.trans (hb1.mono hbr.out.size))
            clear hb1
            have hw1 := HB1.out.size
            go_wp2_with (at_builtin; refine wpList_append_lies _ rfl _ _ 74 rfl w.heap.size 9 i0 (.string ByteArray.empty) 1 16 Tryz.underlying74 hi hz0 hz1 hz2 rfl (by decide) _ xs.length (xs.map Value.string) rfl (World.ownsRow.alloc HO1.out _) ⟨w1.heap.size, 0, none⟩ 1 1 [.string d] rfl rfl ?c2 ?c3 (by decide) ?c4 ?c5 ?c6 _ rfl ?_)
            try (case c2 => exact World.news_of_block (heap_alloc_new w1 (.cells #[.string d] 9)))
            try (case c3 => first | exact (by intro u hu; simp at hu; subst hu; rfl) | rfl)
            case c4 => unfold maxLen; omega
            case c5 => omega
            case c6 => first | omega | (simp; omega)
            intro gc capc w2 hown hgrow hat hltc
            have HN : Hid (OwnS w2 w.heap.size (.slice (some ⟨gc, 0, none⟩) (k + 1) capc) (xs ++ [d])) := OwnS.snoc' hxl hown
            have HN2 := Lib.hid (HB1.out.trans (((below_alloc w1 _).mono hw1).trans (grown_over hgrow (fun k hk => (World.ownsRow.lt HO1.out k hk).1) (by simp; omega))))
            clear hown hgrow hat
            go_wp2
            go_roundw
            case rel => exact ⟨k + 1, _, by omega, by rw [List.length_append, hxl]; rfl, by go_num, HXS.out, HN2.out, HN⟩
            case measure => simp [intOf]; omega
          · have e : k = l.length := by omega
            have HX2 : Hid (xs = l.map dec) := by show xs = _; rw [hxs.out, e, List.take_length]
            clear hi hz0 hz1 hz2
            obtain ⟨g, cap, rfl, hcap, hg, hcells⟩ := hox.out.form (by omega)
            have ej : Lib.join (xs.map (·.data.toList)) [44] = textOf l := by unfold textOf; rw [HX2.out, texts_of]
            have HJ := Lib.hid (Tryz.strings_Join g 0 cap xs ⟨#[44]⟩ wr hcells hg (by omega) hcap (by show (Lib.join _ [44]).length ≤ _; rw [ej]; exact join_le HZ.out h0 (by omega)))
            rw [show (ByteArray.mk #[44]).data.toList = [44] from rfl, ej] at HJ
            rw [hxl] at HJ
            clear hcells ej
            subst e
            go_wp2_with fail
            refine HJ.out.mono ?_
            rintro e w1 ⟨rfl, hb1⟩
            have HB1 := Lib.hid (hbr.out.trans (hb1.mono hbr.out.size))
            clear hb1
            go_wp2_with fail
            go_ret
            exact ⟨rfl, HB1.out⟩
    · rw [hbad] at HC
      rw [if_neg (by simp)]
      clear hi hz0 hz1 hz2
      go_enter Tryz.func45, Tryz.ntmps45
      go_wp2_with fail
      refine HC.out.mono ?_
      rintro e w1 ⟨rfl, q, rfl⟩
      have hbq : Below w.heap.size w (w.drewN q) := ⟨rfl, rfl, rfl, Nat.le_refl _, fun _ _ => rfl⟩
      go_wp2_with fail
      go_ret
      exact ⟨rfl, hbq⟩
  · rw [if_neg (by rw [decide_eq_false h64]; simp)]
    clear hi hz0 hz1 hz2
    go_enter Tryz.func45, Tryz.ntmps45
    go_wp2_with fail
    go_ret
    exact ⟨rfl, b⟩
end Go.Proofs.YtlknncmnphbpkaaGreatDoor.TxtH

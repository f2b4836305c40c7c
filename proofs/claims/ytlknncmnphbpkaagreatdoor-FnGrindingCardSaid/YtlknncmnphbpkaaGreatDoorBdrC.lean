/- Lists of bends that are drawn. -/
import Derived.Test.YtlknncmnphbpkaaGreatDoorBdrB
import Derived.Test.YtlknncmnphbpkaaGreatDoorBlsE
import Derived.Deep.AppendLies
import Derived.Laws.OwnMore
import Derived.Laws.Concat
import Derived.Deep.Onto
namespace Go.Proofs.YtlknncmnphbpkaaGreatDoor.BdrC
set_option maxRecDepth 100000
open Go.RowKit Go.Proofs.YtlknncmnphbpkaaGreatDoor.Plain
open Go.Proofs.YtlknncmnphbpkaaGreatDoor.SrcA Go.Proofs.YtlknncmnphbpkaaGreatDoor.BdrA Go.Proofs.YtlknncmnphbpkaaGreatDoor.BdrB
open Go.Proofs.YtlknncmnphbpkaaGreatDoor.BlsA (Bnd bAt Bnds Cells4)

/-- The cells of a list of bends. -/
def flatB : List Bnd → List Value
  | [] => []
  | x :: l => .string x.s :: .int .i64 x.r :: .int .i64 x.l :: .int .i64 x.c :: flatB l
theorem flatB_length (l : List Bnd) : (flatB l).length = l.length * 4 := by
  induction l with
  | nil => rfl
  | cons p l ih => simp only [flatB, List.length_cons, ih]; omega
theorem flatB_append (a b : List Bnd) : flatB (a ++ b) = flatB a ++ flatB b := by
  induction a with
  | nil => rfl
  | cons p l ih => simp [flatB, ih]
theorem flatB_at : ∀ (l : List Bnd) (i : Nat), i < l.length → (flatB l)[i * 4]? = some (.string (bAt l i).s) ∧ (flatB l)[i * 4 + 1]? = some (.int .i64 (bAt l i).r) ∧ (flatB l)[i * 4 + 2]? = some (.int .i64 (bAt l i).l) ∧ (flatB l)[i * 4 + 3]? = some (.int .i64 (bAt l i).c)
  | [], i, h => by simp at h
  | p :: l, 0, _ => ⟨rfl, rfl, rfl, rfl⟩
  | p :: l, i + 1, h => by
    obtain ⟨a, b, c, d⟩ := flatB_at l i (by simpa using h)
    have e : (i + 1) * 4 = i * 4 + 1 + 1 + 1 + 1 := by omega
    have f : bAt (p :: l) (i + 1) = bAt l i := rfl
    rw [f, e]
    exact ⟨a, b, c, d⟩
theorem flatB_one (l : List Bnd) : ∀ u ∈ flatB l, u.oneCell' = true := by
  induction l with
  | nil => simp [flatB]
  | cons p l ih =>
    intro u hu
    simp only [flatB, List.mem_cons] at hu
    rcases hu with rfl | rfl | rfl | rfl | hu
    · rfl
    · rfl
    · rfl
    · rfl
    · exact ih u hu
/-- A slice of bends that owns its row, in a block from B on; their names are short. -/
def OwnB (w : World) (B : Nat) (v : Value) (l : List Bnd) : Prop := w.ownsRow B 25 4 v l.length (flatB l) ∧ ∀ i, i < l.length → (bAt l i).s.size ≤ 2
theorem OwnB.bnds {w : World} {B : Nat} {v : Value} {l : List Bnd} (h : OwnB w B v l) : ∃ A c, v = .slice A l.length c ∧ Bnds w w.heap.size A l.length l := by
  obtain ⟨⟨_, h⟩, hz⟩ := h
  rcases h with h | h
  · obtain ⟨rfl, h0⟩ := h
    rw [h0]
    exact ⟨none, 0, rfl, h0, fun i hi => by omega, fun hn => by omega⟩
  · obtain ⟨g, cap, cur, rfl, hB, hg, hn, _, hs, ht⟩ := h
    have hr : RowAt w g 25 cur := hg
    refine ⟨some ⟨g, 0, none⟩, cap, rfl, rfl, fun i hi => by have := hz i hi; omega, fun _ => ⟨g, 0, rfl, hr.lt, fun i hi => ?_⟩⟩
    obtain ⟨a, b, c, d⟩ := flatB_at l i hi
    rw [← ht] at a b c d
    rw [List.getElem?_take_of_lt (by omega)] at a b c d
    unfold Cells4
    rw [hr.cell, hr.cell, hr.cell, hr.cell]
    simp only [Nat.zero_add]
    exact ⟨by simpa using a, by simpa using b, by simpa using c, by simpa using d⟩
theorem OwnB.but {w w' : World} {p B : Nat} {v : Value} {l : List Bnd} (h : OwnB w B v l) (hb : But p w w') (hp : p < B) : OwnB w' B v l :=
  ⟨h.1.kept (row := some p) ⟨hb.os, hb.tape, hb.output, hb.size, fun k hk hne => hb.block k hk (fun e => hne (by rw [e]))⟩ (.inr fun e => by have := (h.1.lt p e).1; omega), h.2⟩
theorem OwnB.below {w w' : World} {B : Nat} {v : Value} {l : List Bnd} (h : OwnB w B v l) (hb : Below w.heap.size w w') : OwnB w' B v l :=
  ⟨h.1.kept (row := none) ⟨hb.os, hb.tape, hb.output, hb.size, fun k hk _ => hb.block k hk⟩ (by cases v.ownBlock <;> simp), h.2⟩
theorem names_snoc {l : List Bnd} {x : Bnd} (h : ∀ i, i < l.length → (bAt l i).s.size ≤ 2) (hx : x.s.size ≤ 2) : ∀ i, i < (l ++ [x]).length → (bAt (l ++ [x]) i).s.size ≤ 2 := by
  intro i hi
  rw [List.length_append, List.length_singleton] at hi
  unfold bAt
  by_cases hc : i < l.length
  · rw [List.getD_eq_getElem?_getD, List.getElem?_append_left hc, ← List.getD_eq_getElem?_getD]
    exact h i hc
  · have e : i = l.length := by omega
    subst e
    simp [List.getD_eq_getElem?_getD, hx]
/-- What the draw of a list keeps. -/
structure Lst (w : World) (p : Nat) (A : Option Addr) (n c K : Nat) (v : Value) (l : List Bnd) (W : World) : Prop where
  src : Src W p A n c K
  but : But p w W
  names : RowAt W w.heap.size 9 #[.string ⟨#[98, 97]⟩, .string ⟨#[98, 98]⟩, .string ⟨#[98, 99]⟩, .string ⟨#[98, 100]⟩]
  own : OwnB W (w.heap.size + 1) v l
theorem Lst.choice {w W W' : World} {p : Nat} {A : Option Addr} {n c K K' : Nat} {v : Value} {l : List Bnd} (h : Lst w p A n c K v l W) (hp : p < w.heap.size) (hs : Src W' p A n c K') (hb : But p W W') : Lst w p A n c K' v l W' :=
  ⟨hs, h.but.trans hb, hb.row h.names (by omega), h.own.but hb (by omega)⟩
theorem Lst.more {w W : World} {p : Nat} {A : Option Addr} {n c K K' : Nat} {v : Value} {l : List Bnd} (h : Lst w p A n c K v l W) (hK : K ≤ K') : Lst w p A n c K' v l W := ⟨h.src.more hK, h.but, h.names, h.own⟩
/-- A list with one more bend. -/
theorem Lst.append {w W W2 w1 : World} {p : Nat} {A : Option Addr} {n c K : Nat} {v v' : Value} {l : List Bnd} {x : Bnd} (h : Lst w p A n c K v l W) (hp : p < w.heap.size) (hx : x.s.size ≤ 2) (hW : Below (w.heap.size + 1) W W2) (hsz : w.heap.size + 1 ≤ W2.heap.size) (hg : W2.grownBy w1 v.ownBlock)
    (hown : w1.ownsRow (w.heap.size + 1) 25 4 v' (l.length + 1) (flatB l ++ [.string x.s, .int .i64 x.r, .int .i64 x.l, .int .i64 x.c])) : Lst w p A n c K v' (l ++ [x]) w1 := by
  have b1 : Below (w.heap.size + 1) W2 w1 := ⟨hg.os, hg.tape, hg.output, hg.size, fun k hk => hg.block k (by omega) (fun e => by have := (h.own.1.lt k e.symm).1; omega)⟩
  have b2 := hW.trans b1
  refine ⟨Src.low h.src b2 (by omega), But.low h.but b2 (by omega), row_low h.names b2 (by omega), ⟨?_, names_snoc h.own.2 hx⟩⟩
  rw [flatB_append, List.length_append, List.length_singleton]
  exact hown
theorem Lst.low {w W W' : World} {p : Nat} {A : Option Addr} {n c K : Nat} {v : Value} {l : List Bnd} (h : Lst w p A n c K v l W) (hb : Below W.heap.size W W') : Lst w p A n c K v l W' :=
  ⟨h.src.below hb, h.but.trans (But.of hb), row_low h.names hb h.names.lt, h.own.below hb⟩
/-- A new list, with nothing in it. -/
theorem Lst.fresh {w W : World} {p : Nat} {A : Option Addr} {n c K : Nat} {v : Value} {l : List Bnd} (h : Lst w p A n c K v l W) (_ : p < w.heap.size) : Lst w p A n c K (.slice (some ⟨W.heap.size, 0, none⟩) 0 0) [] (W.alloc (.cells #[] 25)) := by
  have hb := (Below.refl W.heap.size W).alloc (Nat.le_refl _) (.cells #[] 25)
  have h2 := h.low hb
  exact ⟨h2.src, h2.but, h2.names, World.ownsRow_lit W #[] 0 (by have := h.names.lt; omega) (by unfold maxLen; omega) rfl, fun i hi => by simp at hi⟩
theorem info_bend : (Tryz.prog.info? 25).map (fun i => (i.zero, i.size, i.bytes)) = some (some (.agg #[.string ByteArray.empty, .int .i64 0, .int .i64 0, .int .i64 0]), 4, 40) := by kernel_rfl
theorem name_at {k : Nat} (hk : k < 4) : ∃ s : ByteArray, (#[.string ⟨#[98, 97]⟩, .string ⟨#[98, 98]⟩, .string ⟨#[98, 99]⟩, .string ⟨#[98, 100]⟩] : Array Value)[k]? = some (.string s) ∧ s.size ≤ 2 := by
  rcases k with _ | _ | _ | _ | k
  · exact ⟨_, rfl, by decide⟩
  · exact ⟨_, rfl, by decide⟩
  · exact ⟨_, rfl, by decide⟩
  · exact ⟨_, rfl, by decide⟩
  · omega
theorem among_bd (p : Nat) (A : Option Addr) (n c K : Nat) (hK : K ≤ 999000) (t : TypeId) (cs : Array Value) (m : Nat) (lo hi : Int) (hm : 1 < m ∧ m ≤ 100) (hc : ∀ i, i < m → ∃ v : Int, lo ≤ v ∧ v ≤ hi ∧ cs[i]? = some (.int .i64 v)) (w : World) (h : Src w p A n c K) :
    Calls Tryz.prog 47 #[.pointer (some ⟨p, 0, none⟩), .slice (some ⟨w.heap.size, 0, none⟩) m m] (w.alloc (.cells cs t)) fun e w' => ∃ x : Int, lo ≤ x ∧ x ≤ hi ∧ e = .returned (.int .i64 x) ∧ Src w' p A n c (K + 2) ∧ But p w w' := by
  have hp := h.lt
  have b := (Below.refl w.heap.size w).alloc (Nat.le_refl _) (.cells cs t)
  have HP := Lib.hid (pick_any p A n c K hK m (by omega) _ (h.below b))
  have HL : Hid (∀ i, i < m → ∃ v : Int, lo ≤ v ∧ v ≤ hi ∧ (w.alloc (.cells cs t)).cell? ⟨w.heap.size, i, none⟩ = some (.int .i64 v)) := fun i hi' => by
    obtain ⟨v, a, b, e⟩ := hc i hi'
    exact ⟨v, a, b, by rw [(RowAt.new w t cs).cell]; exact e⟩
  have hl2 : w.heap.size < (w.alloc (.cells cs t)).heap.size := by simp
  have HB0 := Lib.hid (But.of (p := p) b)
  clear h hc b
  go_enter Tryz.func47, Tryz.ntmps47
  go_wp2_with fail
  generalize w.alloc (.cells cs t) = W0 at *
  refine HP.out.mono ?_
  rintro e w1 ⟨x, x0, x1, rfl, hs1, hb1, hz1⟩
  obtain ⟨k, rfl⟩ : ∃ k : Nat, x = k := ⟨x.toNat, by omega⟩
  have HS := Lib.hid hs1
  have HB := Lib.hid (HB0.out.trans hb1)
  obtain ⟨v, v0, v1, hv⟩ := HL.out k (by omega)
  have hv1 := (hb1.cell (o := k) hl2 (by omega)).trans hv
  have hkm : (k : Int) < (m : Int) := by omega
  clear hs1 hb1 hz1 hv
  go_wp2_with fail
  go_ret
  exact ⟨_, v0, v1, rfl, HS.out, HB.out⟩
set_option maxHeartbeats 2000000 in
theorem drawL_any (p : Nat) (A : Option Addr) (n c K : Nat) (hK : K ≤ 100) (w : World) (h : Src w p A n c K) :
    Calls Tryz.prog 29 #[.pointer (some ⟨p, 0, none⟩)] w fun e w' => ∃ (B : Nat) (v : Value) (l : List Bnd), e = .returned v ∧ l.length ≤ 20 ∧ OwnB w' B v l ∧ w.heap.size ≤ B ∧ Src w' p A n c 1000 ∧ But p w w' := by
  have hp := h.lt
  obtain ⟨i0, hi, hz0, hz1, hz2⟩ := info_parts info_bend
  have HL0 : Hid (Lst w p A n c K (.slice (some ⟨w.heap.size + 1, 0, none⟩) 0 0) [] ((w.alloc (.cells #[.string ⟨#[98, 97]⟩, .string ⟨#[98, 98]⟩, .string ⟨#[98, 99]⟩, .string ⟨#[98, 100]⟩] 9)).alloc (.cells #[] 25))) := by
    have b0 := (Below.refl w.heap.size w).alloc (Nat.le_refl _) (.cells #[.string ⟨#[98, 97]⟩, .string ⟨#[98, 98]⟩, .string ⟨#[98, 99]⟩, .string ⟨#[98, 100]⟩] 9)
    have hz : (w.alloc (.cells #[.string ⟨#[98, 97]⟩, .string ⟨#[98, 98]⟩, .string ⟨#[98, 99]⟩, .string ⟨#[98, 100]⟩] 9)).heap.size = w.heap.size + 1 := by simp
    have b1 := (Below.refl (w.heap.size + 1) (w.alloc (.cells #[.string ⟨#[98, 97]⟩, .string ⟨#[98, 98]⟩, .string ⟨#[98, 99]⟩, .string ⟨#[98, 100]⟩] 9))).alloc (by omega) (.cells #[] 25)
    have ho : ((w.alloc (.cells #[.string ⟨#[98, 97]⟩, .string ⟨#[98, 98]⟩, .string ⟨#[98, 99]⟩, .string ⟨#[98, 100]⟩] 9)).alloc (.cells #[] 25)).ownsRow (w.heap.size + 1) 25 4 (.slice (some ⟨(w.alloc (.cells #[.string ⟨#[98, 97]⟩, .string ⟨#[98, 98]⟩, .string ⟨#[98, 99]⟩, .string ⟨#[98, 100]⟩] 9)).heap.size, 0, none⟩) 0 0) 0 [] := World.ownsRow_lit _ #[] 0 (by omega) (by unfold maxLen; omega) rfl
    rw [hz] at ho
    have b2 := b0.trans (b1.mono (by omega))
    exact ⟨h.below b2, But.of b2, row_low (RowAt.new w _ _) b1 (by omega), ho, fun i hi => by simp at hi⟩
  clear h
  go_enter Tryz.func29, Tryz.ntmps29
  go_wp2_with fail
  generalize (w.alloc (.cells #[.string ⟨#[98, 97]⟩, .string ⟨#[98, 98]⟩, .string ⟨#[98, 99]⟩, .string ⟨#[98, 100]⟩] 9)).alloc (.cells #[] 25) = W0 at *
  go_loopw [4, 5] (fun v i wr => ∃ (k K' : Nat) (l : List Bnd), k ≤ 4 ∧ i = .int .i64 k ∧ l.length ≤ k ∧ K' + 8 * (4 - k) ≤ 132 ∧ Hid (Lst w p A n c K' v l wr)) (fun _ i _ => 4 - (intOf i).toNat)
  case atStart => exact ⟨0, K, [], by omega, rfl, by simp, by omega, HL0⟩
  case round =>
    obtain ⟨k, K', l, hk, rfl, hl, hK', HL⟩ := hrel
    by_cases hlt : k < 4
    · have hki : (k : Int) < 4 := by omega
      have HO := Lib.hid (one_any p A n c K' (by omega) 3 (by omega) wr HL.out.src)
      go_wp2_with fail
      refine HO.out.mono ?_
      rintro e w1 ⟨b, rfl, hs1, hb1⟩
      have HL1 := Lib.hid (HL.out.choice hp hs1 hb1)
      clear hs1 hb1 HO
      cases b
      · obtain ⟨sk, hsk, hsz⟩ := name_at hlt
        have q0 := (HL1.out.names.cell k).trans hsk
        go_wp2_with fail
        refine (drawOne_any p A n c _ (by omega) sk w1 HL1.out.src).mono ?_
        rintro e w2 ⟨x, y, z, rfl, hs2, hb2⟩
        have HL2 := Lib.hid (HL1.out.choice hp hs2 hb2)
        clear hs2 hb2 q0 hsk
        have HOWN := Lib.hid (HL2.out.own.1)
        have HLX := Lib.hid (HL2.out)
        have hwx : w.heap.size + 1 < w2.heap.size + 1 := by have := HL2.out.names.lt; omega
        have m1 : l.length + 1 ≤ maxLen := by unfold maxLen; omega
        have m2 : (l.length + 1) * 40 ≤ 140737488355328 := by omega
        have HNEW := Lib.hid (World.news_of_block (RowAt.new w2 25 #[.string sk, .int .i64 x, .int .i64 y, .int .i64 z]))
        go_wp2_with (at_builtin; refine wpList_append_lies _ rfl _ _ 30 rfl (w.heap.size + 1) 25 i0 (.agg #[.string ByteArray.empty, .int .i64 0, .int .i64 0, .int .i64 0]) 4 40 Tryz.underlying30 hi hz0 hz1 hz2 rfl (by decide) _ l.length (flatB l) rfl (World.ownsRow.alloc HOWN.out _) ⟨_, 0, none⟩ 1 1 [.string sk, .int .i64 x, .int .i64 y, .int .i64 z] rfl rfl HNEW.out (flatB_one [⟨sk, x, y, z⟩]) (by decide) m1 m2 (by simp; omega) _ rfl ?_)
        intro gc capc W9 hown hgrow hat hltc
        have HLN := Lib.hid (HLX.out.append (x := ⟨sk, x, y, z⟩) hp hsz ((Below.refl (w.heap.size + 1) w2).alloc (by omega) (.cells #[.string sk, .int .i64 x, .int .i64 y, .int .i64 z] 25)) (by simp; omega) hgrow hown)
        clear hown hgrow hat
        go_wp2
        go_roundw
        case rel => exact ⟨k + 1, _, l ++ [⟨sk, x, y, z⟩], by omega, by go_num, by rw [List.length_append, List.length_singleton]; omega, by omega, HLN⟩
        case measure => simp [intOf]; omega
      · go_wp2
        go_roundw
        case rel => exact ⟨k + 1, _, l, by omega, by go_num, by omega, by omega, HL1⟩
        case measure => simp [intOf]; omega
    · have hki : ¬ (k : Int) < 4 := by omega
      have HP := Lib.hid (pick_any p A n c K' (by omega) 20 (by omega) wr HL.out.src)
      clear hi hz0 hz1 hz2
      obtain ⟨i0, hi, hz0, hz1, hz2⟩ := info_parts info_bend
      go_wp2_with fail
      refine HP.out.mono ?_
      rintro e w1 ⟨v, v0, v1, rfl, hs1, hb1, hz1'⟩
      have HL1 := Lib.hid (HL.out.choice hp hs1 hb1)
      clear hs1 hb1 hz1' HP
      by_cases h0 : v = 0
      · subst h0
        go_wp2_with fail
        refine (drawOne_any p A n c _ (by omega) _ w1 HL1.out.src).mono ?_
        rintro e w2 ⟨x', y', z', rfl, hs2, hb2⟩
        have HL2 := Lib.hid (HL1.out.choice hp hs2 hb2)
        clear hs2 hb2
        go_wp2_with fail
        refine (bent_any p A n c _ (by omega) _ x' y' z' w2 HL2.out.src).mono ?_
        rintro e w3 ⟨x, y, z, rfl, hs3, hb3⟩
        have HL3 := Lib.hid (HL2.out.choice hp hs3 hb3)
        clear hs3 hb3
        have HOWN := Lib.hid (HL3.out.own.1)
        have HLX := Lib.hid (HL3.out)
        have hwx : w.heap.size + 1 < w3.heap.size + 1 := by have := HL3.out.names.lt; omega
        have m1 : l.length + 1 ≤ maxLen := by unfold maxLen; omega
        have m2 : (l.length + 1) * 40 ≤ 140737488355328 := by omega
        have HNEW := Lib.hid (World.news_of_block (RowAt.new w3 25 #[.string ⟨#[122, 122]⟩, .int .i64 x, .int .i64 y, .int .i64 z]))
        go_wp2_with (at_builtin; refine wpList_append_lies _ rfl _ _ 30 rfl (w.heap.size + 1) 25 i0 (.agg #[.string ByteArray.empty, .int .i64 0, .int .i64 0, .int .i64 0]) 4 40 Tryz.underlying30 hi hz0 hz1 hz2 rfl (by decide) _ l.length (flatB l) rfl (World.ownsRow.alloc HOWN.out _) ⟨_, 0, none⟩ 1 1 [.string ⟨#[122, 122]⟩, .int .i64 x, .int .i64 y, .int .i64 z] rfl rfl HNEW.out (flatB_one [⟨⟨#[122, 122]⟩, x, y, z⟩]) (by decide) m1 m2 (by simp; omega) _ rfl ?_)
        intro gc capc W9 hown hgrow hat hltc
        have HLN := Lib.hid (HLX.out.append (x := ⟨⟨#[122, 122]⟩, x, y, z⟩) hp (show (⟨#[122, 122]⟩ : ByteArray).size ≤ 2 by decide) ((Below.refl (w.heap.size + 1) w3).alloc (by omega) (.cells #[.string ⟨#[122, 122]⟩, .int .i64 x, .int .i64 y, .int .i64 z] 25)) (by simp; omega) hgrow hown)
        clear hown hgrow hat
        go_wp2_with fail
        go_ret
        exact ⟨_, _, l ++ [⟨⟨#[122, 122]⟩, x, y, z⟩], rfl, by rw [List.length_append, List.length_singleton]; omega, HLN.out.own, by omega, HLN.out.src.more (by omega), HLN.out.but⟩
      · by_cases h1 : v = 1
        · subst h1
          clear h0
          go_wp2_with fail
          refine (among_bd p A n c (K' + 2) (by omega) 2 #[.int .i64 12, .int .i64 13] 2 12 13 (by omega) (fun i hi => by rcases i with _|_|i <;> first | exact ⟨_, by omega, by omega, rfl⟩ | omega) w1 HL1.out.src).mono ?_
          rintro e w2 ⟨V, V0, V1, rfl, hs2, hb2⟩
          have HL2 := Lib.hid (HL1.out.choice hp hs2 hb2)
          clear hs2 hb2
          have HL3 := Lib.hid (HL2.out.fresh hp)
          go_wp2_with fail
          generalize w2.alloc (.cells #[] 25) = W3 at *
          go_loopw [4, 7] (fun v i wr => ∃ (k K' : Nat) (l : List Bnd), k ≤ 13 ∧ (k : Int) ≤ V ∧ i = .int .i64 k ∧ l.length ≤ k ∧ K' + 6 * (13 - k) ≤ 220 ∧ Hid (Lst w p A n c K' v l wr)) (fun _ i _ => 14 - (intOf i).toNat)
          case atStart => exact ⟨0, _, [], by omega, by omega, rfl, by simp, by omega, HL3⟩
          case round =>
            clear HL0 HL HL1 HL2 HL3 hl hK'
            obtain ⟨k, K', l, hk13, hkV, rfl, hl, hK', HL⟩ := hrel
            by_cases hlt2 : (k : Int) < V
            · have hk12 : k ≤ 12 := by omega
              have hx : ((UInt8.ofNat (97 + k)).toNat : Int) = 97 + (k : Int) := by
                have : (UInt8.ofNat (97 + k)).toNat = 97 + k := by simp [UInt8.toNat_ofNat']; omega
                omega
              have HLa := Lib.hid (HL.out.low ((Below.refl wr.heap.size wr).alloc (Nat.le_refl _) (.cells #[.int .u8 (97 + (k : Int))] 5)))
              have hcv : (convert 22 9 (.slice (some ⟨wr.heap.size, 0, none⟩) 1 1)).run Tryz.prog (wr.alloc (.cells #[.int .u8 (97 + (k : Int))] 5)) = .ok (.string ⟨[UInt8.ofNat (97 + k)].toArray⟩) (wr.alloc (.cells #[.int .u8 (97 + (k : Int))] 5)) := by
                rw [← hx]
                exact run_convert_bytes_back (P := Tryz.prog) (wr.alloc (.cells #[.int .u8 ((UInt8.ofNat (97 + k)).toNat : Int)] 5)) 22 9 5 ⟨wr.heap.size, 0, none⟩ 1 [UInt8.ofNat (97 + k)] Tryz.underlying22 Tryz.underlying5 Tryz.underlying9 (fun j hj => by
                  have e : j = 0 := by simpa using hj
                  subst e
                  exact (RowAt.new wr 5 #[.int .u8 ((UInt8.ofNat (97 + k)).toNat : Int)]).cell 0)
              have hdg : (⟨[UInt8.ofNat (97 + k)].toArray⟩ : ByteArray).size = 1 := rfl
              clear hx
              generalize (⟨[UInt8.ofNat (97 + k)].toArray⟩ : ByteArray) = dg at *
              obtain ⟨P1, hP⟩ : ∃ P1, P1 = (⟨#[110]⟩ : ByteArray) ++ dg := ⟨_, rfl⟩
              have hP1 : P1.size ≤ 2 := by rw [hP, ByteArray.size_append, hdg]; exact Nat.le_refl 2
              have A1 : ∀ W, (Op.stringOp .add ⟨#[110]⟩ dg).run Tryz.prog W = .ok (.string P1) W := fun W => by rw [hP]; exact run_string_add_sum W _ _ (by rw [hdg]; show 1 + 1 ≤ _; omega)
              clear hP hdg
              go_wp2_with fail
              refine (drawOne_any p A n c _ (by omega) P1 _ HLa.out.src).mono ?_
              rintro e w4 ⟨x, y, z, rfl, hs4, hb4⟩
              have HL4 := Lib.hid (HLa.out.choice hp hs4 hb4)
              clear hs4 hb4 hcv A1
              have HOWN := Lib.hid (HL4.out.own.1)
              have HLX := Lib.hid (HL4.out)
              have hwx : w.heap.size + 1 < w4.heap.size + 1 := by have := HL4.out.names.lt; omega
              have m1 : l.length + 1 ≤ maxLen := by unfold maxLen; omega
              have m2 : (l.length + 1) * 40 ≤ 140737488355328 := by omega
              have HNEW := Lib.hid (World.news_of_block (RowAt.new w4 25 #[.string P1, .int .i64 x, .int .i64 y, .int .i64 z]))
              go_wp2_with (at_builtin; refine wpList_append_lies _ rfl _ _ 30 rfl (w.heap.size + 1) 25 i0 (.agg #[.string ByteArray.empty, .int .i64 0, .int .i64 0, .int .i64 0]) 4 40 Tryz.underlying30 hi hz0 hz1 hz2 rfl (by decide) _ l.length (flatB l) rfl (World.ownsRow.alloc HOWN.out _) ⟨_, 0, none⟩ 1 1 [.string P1, .int .i64 x, .int .i64 y, .int .i64 z] rfl rfl HNEW.out (flatB_one [⟨P1, x, y, z⟩]) (by decide) m1 m2 (by simp; omega) _ rfl ?_)
              intro gc capc W9 hown hgrow hat hltc
              have HLN := Lib.hid (HLX.out.append (x := ⟨P1, x, y, z⟩) hp hP1 ((Below.refl (w.heap.size + 1) w4).alloc (by omega) (.cells #[.string P1, .int .i64 x, .int .i64 y, .int .i64 z] 25)) (by simp; omega) hgrow hown)
              clear hown hgrow hat
              go_wp2
              go_roundw
              case rel => exact ⟨k + 1, _, l ++ [⟨P1, x, y, z⟩], by omega, by omega, by go_num, by rw [List.length_append, List.length_singleton]; omega, by omega, HLN⟩
              case measure => simp [intOf]; omega
            · go_wp2_with fail
              go_ret
              exact ⟨_, _, rfl, l, by omega, HL.out.own, by omega, HL.out.src.more (by omega), HL.out.but⟩
        · have e0 : (v == 0) = false := by rw [beq_eq_false_iff_ne]; exact h0
          have e1 : (v == 1) = false := by rw [beq_eq_false_iff_ne]; exact h1
          have HF : Hid (∃ (B : Nat) (v : Value) (l : List Bnd), Ending.returned u4 = .returned v ∧ l.length ≤ 20 ∧ OwnB w1 B v l ∧ w.heap.size ≤ B ∧ Src w1 p A n c 1000 ∧ But p w w1) := ⟨_, _, l, rfl, by omega, HL1.out.own, by omega, HL1.out.src.more (by omega), HL1.out.but⟩
          clear h0 h1
          go_wp2_with fail
          go_ret
          exact HF.out
theorem drawSeconds_any (A : Option Addr) (n c : Nat) (w : World) (hb : Bys w w.heap.size A n) (hn : n ≤ 1048576) :
    Calls Tryz.prog 12 #[.slice A n c] w fun e w' => ∃ (v : Value) (l : List Bnd) (m0 : Int), e = .returned (.tuple #[v, .int .i64 m0]) ∧ l.length ≤ 20 ∧ OwnB w' w.heap.size v l ∧ Below w.heap.size w w' := by
  have HF := Lib.hid (from_any A n c w hb hn)
  clear hb
  go_enter Tryz.func12, Tryz.ntmps12
  go_wp2_with fail
  refine HF.out.mono ?_
  rintro e w1 ⟨rfl, hs1, hb1, hz1⟩
  have HS1 := Lib.hid hs1
  have HB1 := Lib.hid hb1
  have hg1 : w.heap.size < w1.heap.size := by omega
  clear hs1 hb1 hz1 HF
  go_wp2_with fail
  refine (drawL_any w.heap.size A n c 0 (by omega) w1 HS1.out).mono ?_
  rintro e w2 ⟨B, v, l, rfl, hl, ho, hB, hs2, hb2⟩
  have HS_0 := Lib.hid hs2
  have HO_0 := Lib.hid ho
  have HB_0 := Lib.hid (HB1.out.trans (hb2.below (Nat.le_refl _) (Nat.le_of_lt hg1)))
  have hgB : w.heap.size < B := by omega
  clear hs2 hb2 ho
  go_wp2_with fail
  refine (drawMost_any w.heap.size A n c (1000) (by omega) _ HS_0.out).mono ?_
  rintro e v0 ⟨m0, rfl, hs, hb⟩
  have HO_1 := Lib.hid (HO_0.out.but hb hgB)
  have HB_1 := Lib.hid (HB_0.out.trans (hb.below (Nat.le_refl _) (Nat.le_of_lt HS_0.out.lt)))
  have HS_1 := Lib.hid hs
  clear hs hb
  go_wp2_with fail
  go_ret2
  exact ⟨v, l, m0, rfl, by omega, ⟨World.ownsRow.mono HO_1.out.1 (Nat.le_of_lt hgB), HO_1.out.2⟩, HB_1.out⟩
end Go.Proofs.YtlknncmnphbpkaaGreatDoor.BdrC
/- The draw of the arguments of the order of grinding. -/
namespace Go.Proofs.YtlknncmnphbpkaaGreatDoor.BdrD
set_option maxRecDepth 100000
open Go.RowKit Go.Proofs.YtlknncmnphbpkaaGreatDoor.Plain
open Go.Proofs.YtlknncmnphbpkaaGreatDoor.SrcA Go.Proofs.YtlknncmnphbpkaaGreatDoor.BdrA Go.Proofs.YtlknncmnphbpkaaGreatDoor.BdrB Go.Proofs.YtlknncmnphbpkaaGreatDoor.BdrC
open Go.Proofs.YtlknncmnphbpkaaGreatDoor.BlsA (Bnd bAt Bnds Cells4)

theorem res4 {fn : Func} {t u v x : Tmp} (h : fn.results = #[.tmp t, .tmp u, .tmp v, .tmp x]) (tmps : Array Value) (P : Program) (w : World) :
    (results fn tmps).run P w = .ok (.tuple #[tmps.getD t undef, tmps.getD u undef, tmps.getD v undef, tmps.getD x undef]) w := by simp [results, h]
theorem drawGrind_any (A : Option Addr) (n c : Nat) (w : World) (hb : Bys w w.heap.size A n) (hn : n ≤ 1048576) :
    Calls Tryz.prog 8 #[.slice A n c] w fun e w' => ∃ (v : Value) (l : List Bnd) (m0 m1 m2 : Int), e = .returned (.tuple #[v, .int .i64 m0, .int .i64 m1, .int .i64 m2]) ∧ l.length ≤ 20 ∧ OwnB w' w.heap.size v l ∧ Below w.heap.size w w' := by
  have HF := Lib.hid (from_any A n c w hb hn)
  clear hb
  go_enter Tryz.func8, Tryz.ntmps8
  go_wp2_with fail
  refine HF.out.mono ?_
  rintro e w1 ⟨rfl, hs1, hb1, hz1⟩
  have HS1 := Lib.hid hs1
  have HB1 := Lib.hid hb1
  have hg1 : w.heap.size < w1.heap.size := by omega
  clear hs1 hb1 hz1 HF
  go_wp2_with fail
  refine (drawL_any w.heap.size A n c 0 (by omega) w1 HS1.out).mono ?_
  rintro e w2 ⟨B, v, l, rfl, hl, ho, hB, hs2, hb2⟩
  have HS_0 := Lib.hid hs2
  have HO_0 := Lib.hid ho
  have HB_0 := Lib.hid (HB1.out.trans (hb2.below (Nat.le_refl _) (Nat.le_of_lt hg1)))
  have hgB : w.heap.size < B := by omega
  clear hs2 hb2 ho
  go_wp2_with fail
  refine (drawRides_any w.heap.size A n c (1000) (by omega) _ HS_0.out).mono ?_
  rintro e v0 ⟨m0, rfl, hs, hb⟩
  have HO_1 := Lib.hid (HO_0.out.but hb hgB)
  have HB_1 := Lib.hid (HB_0.out.trans (hb.below (Nat.le_refl _) (Nat.le_of_lt HS_0.out.lt)))
  have HS_1 := Lib.hid hs
  clear hs hb
  go_wp2_with fail
  refine (drawKilos_any w.heap.size A n c (1000 + 4) (by omega) _ HS_1.out).mono ?_
  rintro e v1 ⟨m1, rfl, hs, hb⟩
  have HO_2 := Lib.hid (HO_1.out.but hb hgB)
  have HB_2 := Lib.hid (HB_1.out.trans (hb.below (Nat.le_refl _) (Nat.le_of_lt HS_1.out.lt)))
  have HS_2 := Lib.hid hs
  clear hs hb
  go_wp2_with fail
  refine (drawRides_any w.heap.size A n c (1000 + 4 + 4) (by omega) _ HS_2.out).mono ?_
  rintro e w5 ⟨m2, rfl, hs5, hb5⟩
  have HO_3 := Lib.hid (HO_2.out.but hb5 hgB)
  have HB_3 := Lib.hid (HB_2.out.trans (hb5.below (Nat.le_refl _) (Nat.le_of_lt HS_2.out.lt)))
  clear hs5 hb5
  go_wp2_with fail
  exact bodyPost_ret (res4 rfl _ _ _) rfl ⟨v, l, m0, m1, m2, rfl, by omega, ⟨World.ownsRow.mono HO_3.out.1 (Nat.le_of_lt hgB), HO_3.out.2⟩, HB_3.out⟩
end Go.Proofs.YtlknncmnphbpkaaGreatDoor.BdrD

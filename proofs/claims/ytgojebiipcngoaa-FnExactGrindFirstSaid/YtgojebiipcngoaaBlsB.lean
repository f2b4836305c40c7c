/- The walks of the laws' copies and comparisons of lists of bends. -/
import Derived.Test.YtgojebiipcngoaaBlsA
import Derived.OwnWalk
namespace Go.Proofs.Ytgojebiipcngoaa.BlsB
open Go.RowKit Go.Proofs.Ytgojebiipcngoaa.Plain Go.Proofs.Ytgojebiipcngoaa.WalkA Go.Proofs.Ytgojebiipcngoaa.WalkB Go.Proofs.Ytgojebiipcngoaa.WalkC Go.Proofs.Ytgojebiipcngoaa.WalkF Go.Proofs.Ytgojebiipcngoaa.WalkH Go.Proofs.Ytgojebiipcngoaa.BndA Go.Proofs.Ytgojebiipcngoaa.BLaw Go.Proofs.Ytgojebiipcngoaa.BlsA

def RowAt (w : World) (g : Nat) (t : TypeId) (cs : Array Value) : Prop := w.heap[g]? = some (.cells cs t (0, 0))
theorem RowAt.lt {w : World} {g : Nat} {t : TypeId} {cs : Array Value} (h : RowAt w g t cs) : g < w.heap.size := by
  rcases Nat.lt_or_ge g w.heap.size with hlt | hge
  · exact hlt
  · unfold RowAt at h; rw [Array.getElem?_eq_none hge] at h; cases h
theorem RowAt.cell {w : World} {g : Nat} {t : TypeId} {cs : Array Value} (h : RowAt w g t cs) (i : Nat) : w.cell? ⟨g, i, none⟩ = cs[i]? := cell_of_row w g i cs t (0, 0) h
theorem RowAt.frozen {w : World} {g : Nat} {t : TypeId} {cs : Array Value} (h : RowAt w g t cs) (i : Nat) : w.frozen? ⟨g, i, none⟩ = false := by
  unfold RowAt at h
  simp [World.frozen?, h]
theorem RowAt.new (w : World) (t : TypeId) (cs : Array Value) : RowAt (w.alloc (.cells cs t)) w.heap.size t cs := heap_alloc_new w _
theorem RowAt.below {w w' : World} {g B : Nat} {t : TypeId} {cs : Array Value} (h : RowAt w g t cs) (hb : Below B w w') (hg : g < B) : RowAt w' g t cs := (hb.block g hg).trans h
theorem RowAt.store {w : World} {g : Nat} {t : TypeId} {cs : Array Value} (h : RowAt w g t cs) (i : Nat) (u : Value) : RowAt (w.setCell ⟨g, i, none⟩ u) g t (cs.setIfInBounds i u) := by
  unfold RowAt at h ⊢
  simp [World.setCell, Array.getElem?_modify, h]
theorem info_bend : (Try.prog.info? 41).map (fun i => (i.zero, i.size, i.bytes)) = some (some (.agg #[.string ByteArray.empty, .int .i64 0, .int .i64 0, .int .i64 0]), 4, 40) := by kernel_rfl
/-- A new slice of bends with those of bl. -/
def NewBnds (w : World) (bl : List Bnd) (e : Ending) (w' : World) : Prop :=
  ∃ c, e = .returned (.slice (some ⟨w.heap.size, 0, none⟩) bl.length c) ∧ Bnds w' w'.heap.size (some ⟨w.heap.size, 0, none⟩) bl.length bl ∧ Below w.heap.size w w' ∧ w.heap.size < w'.heap.size
/-- The cells of a row whose first k bends are laid. -/
def FilledB (cs : Array Value) (bl : List Bnd) (k : Nat) : Prop := cs.size = bl.length * 4 ∧ ∀ j, j < k → cs[j * 4]? = some (.string (bAt bl j).s) ∧ cs[j * 4 + 1]? = some (.int .i64 (bAt bl j).r) ∧ cs[j * 4 + 2]? = some (.int .i64 (bAt bl j).l) ∧ cs[j * 4 + 3]? = some (.int .i64 (bAt bl j).c)
theorem FilledB.step {cs : Array Value} {bl : List Bnd} {k : Nat} (h : FilledB cs bl k) (hk : k < bl.length) :
    FilledB ((((cs.setIfInBounds (k * 4) (.string (bAt bl k).s)).setIfInBounds (k * 4 + 1) (.int .i64 (bAt bl k).r)).setIfInBounds (k * 4 + 2) (.int .i64 (bAt bl k).l)).setIfInBounds (k * 4 + 3) (.int .i64 (bAt bl k).c)) bl (k + 1) := by
  obtain ⟨h1, h2⟩ := h
  refine ⟨by simpa using h1, fun j hj => ?_⟩
  by_cases e : j = k
  · subst e
    refine ⟨?_, ?_, ?_, ?_⟩
    · rw [Array.getElem?_setIfInBounds_ne (by omega), Array.getElem?_setIfInBounds_ne (by omega), Array.getElem?_setIfInBounds_ne (by omega), Array.getElem?_setIfInBounds_self_of_lt (by omega)]
    · rw [Array.getElem?_setIfInBounds_ne (by omega), Array.getElem?_setIfInBounds_ne (by omega), Array.getElem?_setIfInBounds_self_of_lt (by simp; omega)]
    · rw [Array.getElem?_setIfInBounds_ne (by omega), Array.getElem?_setIfInBounds_self_of_lt (by simp; omega)]
    · rw [Array.getElem?_setIfInBounds_self_of_lt (by simp; omega)]
  · obtain ⟨a, b, c, d⟩ := h2 j (by omega)
    have far : ∀ i, i / 4 = j → ((((cs.setIfInBounds (k * 4) (.string (bAt bl k).s)).setIfInBounds (k * 4 + 1) (.int .i64 (bAt bl k).r)).setIfInBounds (k * 4 + 2) (.int .i64 (bAt bl k).l)).setIfInBounds (k * 4 + 3) (.int .i64 (bAt bl k).c))[i]? = cs[i]? := by
      intro i hi
      rw [Array.getElem?_setIfInBounds_ne (by omega), Array.getElem?_setIfInBounds_ne (by omega), Array.getElem?_setIfInBounds_ne (by omega), Array.getElem?_setIfInBounds_ne (by omega)]
    exact ⟨(far _ (by omega)).trans a, (far _ (by omega)).trans b, (far _ (by omega)).trans c, (far _ (by omega)).trans d⟩
theorem FilledB.bnds {cs : Array Value} {bl : List Bnd} {w : World} {g : Nat} {t : TypeId} (h : FilledB cs bl bl.length) (hr : RowAt w g t cs) (hz : ∀ i, i < bl.length → (bAt bl i).s.size ≤ 9223372036854775807) : Bnds w w.heap.size (some ⟨g, 0, none⟩) bl.length bl :=
  ⟨rfl, hz, fun _ => ⟨g, 0, rfl, hr.lt, fun i hi => by
    obtain ⟨a, b, c, d⟩ := h.2 i hi
    unfold Cells4
    rw [hr.cell, hr.cell, hr.cell, hr.cell]
    simp only [Nat.zero_add]
    exact ⟨a, b, c, d⟩⟩⟩
theorem toBends_any (A : Option Addr) (n c : Nat) (bl : List Bnd) (w : World) (hs : Bnds w w.heap.size A n bl) (hn : n ≤ 1048576) :
    Calls Try.prog 6 #[.slice A n c] w (NewBnds w bl) := by
  have HS := Lib.hid hs
  obtain ⟨rfl, hzz, _⟩ := hs
  have HZZ := Lib.hid hzz
  clear hzz
  obtain ⟨i0, hi, hz0, hz1, hz2⟩ := info_parts info_bend
  have hmk : ∀ W : World, (Instr.makeSlice 27 (.int .i64 (bl.length : Int)) (.int .i64 (bl.length : Int))).run Try.prog W = .ok (.slice (some ⟨W.heap.size, 0, none⟩) bl.length bl.length) (W.alloc (.cells (madeCells #[.string ByteArray.empty, .int .i64 0, .int .i64 0, .int .i64 0] (bl.length * 4)) 41)) := fun W => by
    have h := run_make (P := Try.prog) W 27 41 i0 _ Try.underlying27 hi hz0 .i64 .i64 (bl.length : Int) (bl.length : Int) (by omega) (by omega) (by rw [hz2]; omega) (by omega)
    rw [hz1] at h
    simpa [Value.cells] using h
  clear hi hz0 hz1 hz2
  go_enter Try.func6, Try.ntmps6
  go_wp2
  have HW1 := Lib.hid (RowAt.new w 41 (madeCells #[.string ByteArray.empty, .int .i64 0, .int .i64 0, .int .i64 0] (bl.length * 4)))
  have HB1 := Lib.hid ((Below.refl w.heap.size w).alloc (Nat.le_refl _) (.cells (madeCells #[.string ByteArray.empty, .int .i64 0, .int .i64 0, .int .i64 0] (bl.length * 4)) 41))
  have hc0 : (madeCells #[.string ByteArray.empty, .int .i64 0, .int .i64 0, .int .i64 0] (bl.length * 4)).size = bl.length * 4 := by simp [madeCells]
  have HC0 := Lib.hid hc0
  clear hc0 hmk
  generalize w.alloc (.cells (madeCells #[.string ByteArray.empty, .int .i64 0, .int .i64 0, .int .i64 0] (bl.length * 4)) 41) = W1 at *
  generalize madeCells #[.string ByteArray.empty, .int .i64 0, .int .i64 0, .int .i64 0] (bl.length * 4) = cs0 at *
  go_loopw [4] (fun i wr => ∃ (k : Nat) (cs : Array Value), k ≤ bl.length ∧ i = .int .i64 k ∧ Hid (RowAt wr w.heap.size 41 cs) ∧ Hid (FilledB cs bl k) ∧ Below w.heap.size w wr) (fun i _ => bl.length - (intOf i).toNat)
  case atStart => exact ⟨0, cs0, Nat.zero_le _, rfl, HW1, ⟨HC0.out, fun j hj => by omega⟩, HB1.out⟩
  case round =>
    obtain ⟨k, cs, hk, rfl, hrow, hfill, hbr⟩ := hrel
    have HBR := Lib.hid hbr
    by_cases hlt : k < bl.length
    · obtain ⟨b, off, rfl, hb, hc⟩ := (HS.out.below hbr hbr.size).2.2 (by omega)
      obtain ⟨c1, c2, c3, c4⟩ := hc k hlt
      clear hc hbr
      go_wp2_with fail
      refine (toBend_any _ _ _ _ _).mono ?_
      rintro e w2 ⟨rfl, hb2⟩
      have HB2 := Lib.hid hb2
      have hrow2 := hrow.out.below hb2 hrow.out.lt
      clear hb2 c1 c2 c3 c4
      have q1 : w2.cell? ⟨w.heap.size, k * 4, none⟩ = some (cs[k * 4]'(by have := hfill.out.1; omega)) := by rw [hrow2.cell]; exact Array.getElem?_eq_getElem _
      have q2 : w2.cell? ⟨w.heap.size, k * 4 + 1, none⟩ = some (cs[k * 4 + 1]'(by have := hfill.out.1; omega)) := by rw [hrow2.cell]; exact Array.getElem?_eq_getElem _
      have q3 : w2.cell? ⟨w.heap.size, k * 4 + 2, none⟩ = some (cs[k * 4 + 2]'(by have := hfill.out.1; omega)) := by rw [hrow2.cell]; exact Array.getElem?_eq_getElem _
      have q4 : w2.cell? ⟨w.heap.size, k * 4 + 3, none⟩ = some (cs[k * 4 + 3]'(by have := hfill.out.1; omega)) := by rw [hrow2.cell]; exact Array.getElem?_eq_getElem _
      have p1 := hrow2.frozen (k * 4)
      have p2 := hrow2.frozen (k * 4 + 1)
      have p3 := hrow2.frozen (k * 4 + 2)
      have p4 := hrow2.frozen (k * 4 + 3)
      have HR2 := Lib.hid hrow2
      clear hrow2
      go_wp2
      go_roundw
      case rel => exact ⟨k + 1, _, by omega, by go_num, (((HR2.out.store _ _).store _ _).store _ _).store _ _, hfill.out.step hlt, ((((HBR.out.trans (HB2.out.mono HBR.out.size)).setCell (Nat.le_refl _) _).setCell (Nat.le_refl _) _).setCell (Nat.le_refl _) _).setCell (Nat.le_refl _) _⟩
      case measure => simp [intOf]; omega
    · have e : k = bl.length := by omega
      subst e
      clear hbr
      go_wp2
      go_ret
      exact ⟨_, rfl, hfill.out.bnds hrow.out HZZ.out, HBR.out, hrow.out.lt⟩
end Go.Proofs.Ytgojebiipcngoaa.BlsB

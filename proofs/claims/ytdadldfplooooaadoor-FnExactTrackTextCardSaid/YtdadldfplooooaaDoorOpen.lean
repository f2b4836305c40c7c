/- An argument that is a track is opened: its slice of sections in memory, and its two places. -/
import Derived.Test.YtdadldfplooooaaDoorTrkP
import Derived.Deep.SlicePairs
import Derived.Lib.SmallJoins
namespace Go.Proofs.YtdadldfplooooaaDoor.Open
open Go.ChangeShapes Go.WideShapes Go.RowKit Go.Deep Go.Joins Go.Proofs.YtdadldfplooooaaDoor.TrkP
section
variable {H : Type} {enc : TypeId × Value → H} {P : Program} {w : World} {base : Nat} {spare : Nat → Bool} {held : Bool}
theorem int_cell {ti : TypeId} {k : IntKind} {fuel : Nat} {v : Value} {x : DataW H × List MemPlace} (ht : P.underlying ti = some (.int k)) (h : DataW.trod enc P w base spare held fuel ti [v] = some x) : ∃ n, v = .int k n := by
  obtain ⟨n, e, _, _⟩ := DataW.trod_int ht h
  exact ⟨n, by injection e⟩
theorem open_track {r : Reach} {b0 : Nat} {t : TypeId} {f0 f1 f2 : Field} {ts e : TypeId} {g0 g1 : Field} {v : Value} {d : DataW H} {p : List MemPlace}
    (hs : P.underlying t = some (.struct #[f0, f1, f2])) (hone : oneCellFields P #[f0, f1, f2] = true) (hC : P.cellsOf t = 3) (hf0 : f0.type = ts) (h1 : P.underlying f1.type = some (.int .i64)) (h2 : P.underlying f2.type = some (.int .i64))
    (ht : P.underlying ts = some (.slice e)) (he : P.underlying e = some (.struct #[g0, g1])) (ce : P.cellsOf e = 2) (o0 : g0.offset = 0) (o1 : g1.offset = 1) (c0 : P.cellsOf g0.type = 1) (c1 : P.cellsOf g1.type = 1)
    (i0 : P.underlying g0.type = some (.int .i64)) (i1 : P.underlying g1.type = some (.int .i64))
    (hv : Value.okWide P w r b0 t v) (h : DataW.Trod enc P w base spare held t v d p) :
    ∃ (A : Option Addr) (n c : Nat) (lf lu : Int) (l : List (Int × Int)), v = .agg #[.slice A n c, .int .i64 lf, .int .i64 lu] ∧ Secs w w.heap.size A n l ∧ n ≤ 9223372036854775807 := by
  obtain ⟨v0, v1, v2, y0, y1, y2, m, rfl, _, _, hy0, hy1, hy2⟩ := open_agg3 hs hone hC hv h
  obtain ⟨lf, rfl⟩ := int_cell h1 hy1
  obtain ⟨lu, rfl⟩ := int_cell h2 hy2
  rw [hf0] at hy0
  rcases open_slice_pairs ht he ce o0 o1 c0 c1 hy0 with ⟨hc, _⟩ | ⟨a, len, cap, m', k, V0, V1, D0, D1, P0, P1, hc, hb, hl, hm, hmm, _, hall⟩
  · have e0 : v0 = .slice none 0 0 := by injection hc
    subst e0
    exact ⟨none, 0, 0, lf, lu, [], rfl, ⟨rfl, fun h => absurd h (by omega)⟩, by omega⟩
  · have e0 : v0 = .slice (some a) len cap := by injection hc
    subst e0
    have hlm : len ≤ m' := by rw [hmm]; split <;> omega
    unfold maxLen at hm
    refine ⟨some a, len, cap, lf, lu, (List.range len).map fun i => (intOf (V0 i), intOf (V1 i)), rfl, ⟨by simp, fun hpos => ?_⟩, by omega⟩
    obtain ⟨b, off, spot⟩ := a
    have hc0 := (hall 0 (by omega)).1
    have hspot : spot = none := by
      have := World.cell?_spot hc0
      simpa [Addr.add] using this
    subst hspot
    have hblk : b < w.heap.size := by
      have := World.block_lt_of_cell? w _ hc0
      simpa [Addr.add] using this
    refine ⟨b, off, rfl, hblk, fun i hi => ?_⟩
    obtain ⟨q0, q1, t0, t1⟩ := hall i (by omega)
    obtain ⟨z0, e0⟩ := int_cell i0 t0
    obtain ⟨z1, e1⟩ := int_cell i1 t1
    have a0 : (⟨b, off, none⟩ : Addr).add (i * 2) = ⟨b, off + i * 2, none⟩ := by unfold Addr.add; split <;> simp_all
    have a1 : (⟨b, off, none⟩ : Addr).add (i * 2 + 1) = ⟨b, off + i * 2 + 1, none⟩ := by unfold Addr.add; split <;> simp_all <;> omega
    rw [a0, e0] at q0
    rw [a1, e1] at q1
    have hget : ((List.range len).map fun i => (intOf (V0 i), intOf (V1 i))).getD i (0, 0) = (z0, z1) := by
      simp [List.getD, hi, e0, e1, intOf]
    unfold secL secG
    rw [hget]
    exact ⟨q0, q1⟩
end
end Go.Proofs.YtdadldfplooooaaDoor.Open

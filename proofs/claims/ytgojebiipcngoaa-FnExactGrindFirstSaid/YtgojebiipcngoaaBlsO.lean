/- An argument that is a slice of bends is opened: the bends that lie behind it. -/
import Derived.Test.YtgojebiipcngoaaBlsA
import Derived.Test.YtgojebiipcngoaaBOpen
import Derived.Deep.Slices
import Derived.Deep.Fields
import Derived.ChangeSame
namespace Go.Proofs.Ytgojebiipcngoaa.BlsO
open Go.ChangeShapes Go.WideShapes Go.RowKit Go.Deep Go.Proofs.Ytgojebiipcngoaa.BlsA
section
variable {H : Type} {enc : TypeId × Value → H} {P : Program} {w : World} {base : Nat} {spare : Nat → Bool} {held : Bool}
theorem add_plain (b o k : Nat) : (⟨b, o, none⟩ : Addr).add k = ⟨b, o + k, none⟩ := by unfold Addr.add; split <;> simp_all
/-- A field of one cell: its cell in memory, and its reading. -/
theorem bend_field {fs : Array Field} {e : TypeId} {fuel : Nat} {a : Addr} {cs : List Value} {x : DataW H × List MemPlace} (he : P.underlying e = some (.struct fs)) (hone : oneCellFields P fs = true)
    (hc : w.cells? base a fs.size = some cs) (ht : DataW.trod enc P w base spare held fuel e cs = some x) (j : Nat) (f : Field) (hj : fs[j]? = some f) :
    ∃ (v : Value) (m : Nat) (y : DataW H × List MemPlace), w.cell? (a.add j) = some v ∧ DataW.trod enc P w base spare held m f.type [v] = some y := by
  obtain ⟨xs, m, _, _, _, hl, hf⟩ := DataW.trod_struct he ht
  obtain ⟨_, hlen, hat⟩ := World.cells?_some hc
  obtain ⟨ho, hk⟩ := hone_of hone j f hj
  have hlt : j < fs.size := (Array.getElem?_eq_some_iff.1 hj).1
  have e1 : cs[j]? = some (cs[j]'(by omega)) := List.getElem?_eq_getElem (by omega)
  have e2 : xs[j]? = some (xs[j]'(by omega)) := List.getElem?_eq_getElem (by omega)
  have e3 := hf j f hj
  rw [ho, hk, List.drop_eq_getElem_cons (show j < cs.length by omega), e2] at e3
  exact ⟨_, m, _, (hat j hlt).trans e1, e3⟩
theorem open_bends {r : Reach} {b0 : Nat} {t e : TypeId} {f0 f1 f2 f3 : Field} {v : Value} {d : DataW H} {p : List MemPlace}
    (ht : P.underlying t = some (.slice e)) (he : P.underlying e = some (.struct #[f0, f1, f2, f3])) (hone : oneCellFields P #[f0, f1, f2, f3] = true) (hC : P.cellsOf e = 4)
    (h0 : P.underlying f0.type = some .string) (h1 : P.underlying f1.type = some (.int .i64)) (h2 : P.underlying f2.type = some (.int .i64)) (h3 : P.underlying f3.type = some (.int .i64))
    (hv : Value.okWide P w r b0 t v) (h : DataW.Trod enc P w base spare held t v d p) :
    ∃ (A : Option Addr) (n c : Nat) (bl : List Bnd), v = .slice A n c ∧ Bnds w w.heap.size A n bl ∧ n ≤ 9223372036854775807 := by
  obtain ⟨A, n, c, rfl⟩ := okWide_slice ht hv
  obtain ⟨fuel, hf⟩ := h
  rcases open_slice ht hf with ⟨hc, _⟩ | ⟨a, len, cap, m, k, D, Pl, hc, _, hl, hm, hmm, _, hall⟩
  · have e0 : Value.slice A n c = .slice none 0 0 := by simpa [Value.cells] using hc
    injection e0 with e1 e2 e3
    subst e1; subst e2; subst e3
    exact ⟨none, 0, 0, [], rfl, ⟨rfl, fun i hi => by omega, fun hn => by omega⟩, by omega⟩
  · have e0 : Value.slice A n c = .slice (some a) len cap := by simpa [Value.cells] using hc
    injection e0 with e1 e2 e3
    subst e1; subst e2; subst e3
    have hlm : n ≤ m := by rw [hmm]; split <;> omega
    unfold maxLen at hm
    have each : ∀ i, i < n → ∃ x : Bnd, x.s.size ≤ 9223372036854775807 ∧ w.cell? ((a.add (i * 4)).add 0) = some (.string x.s) ∧ w.cell? ((a.add (i * 4)).add 1) = some (.int .i64 x.r) ∧ w.cell? ((a.add (i * 4)).add 2) = some (.int .i64 x.l) ∧ w.cell? ((a.add (i * 4)).add 3) = some (.int .i64 x.c) := by
      intro i hi
      obtain ⟨cs, hcs, htr⟩ := hall i (by omega)
      rw [hC] at hcs
      obtain ⟨v0, m0, y0, c0, t0⟩ := bend_field he hone hcs htr 0 f0 rfl
      obtain ⟨v1, m1, y1, c1, t1⟩ := bend_field he hone hcs htr 1 f1 rfl
      obtain ⟨v2, m2, y2, c2, t2⟩ := bend_field he hone hcs htr 2 f2 rfl
      obtain ⟨v3, m3, y3, c3, t3⟩ := bend_field he hone hcs htr 3 f3 rfl
      obtain ⟨s, es, _, hz⟩ := DataW.trod_string h0 t0
      obtain ⟨r, rfl⟩ := BOpen.int_cell h1 t1
      obtain ⟨l, rfl⟩ := BOpen.int_cell h2 t2
      obtain ⟨q, rfl⟩ := BOpen.int_cell h3 t3
      have e0 : v0 = .string s := by injection es
      subst e0
      exact ⟨⟨s, r, l, q⟩, by unfold maxLen at hz; show s.size ≤ _; omega, c0, c1, c2, c3⟩
    have pick : ∀ i, ∃ x : Bnd, i < n → x.s.size ≤ 9223372036854775807 ∧ w.cell? ((a.add (i * 4)).add 0) = some (.string x.s) ∧ w.cell? ((a.add (i * 4)).add 1) = some (.int .i64 x.r) ∧ w.cell? ((a.add (i * 4)).add 2) = some (.int .i64 x.l) ∧ w.cell? ((a.add (i * 4)).add 3) = some (.int .i64 x.c) := fun i => by
      by_cases hi : i < n
      · obtain ⟨x, hx⟩ := each i hi
        exact ⟨x, fun _ => hx⟩
      · exact ⟨Bnd.no, fun h => absurd h hi⟩
    obtain ⟨F, hX⟩ : ∃ F : Nat → Bnd, ∀ i, i < n → (F i).s.size ≤ 9223372036854775807 ∧ w.cell? ((a.add (i * 4)).add 0) = some (.string (F i).s) ∧ w.cell? ((a.add (i * 4)).add 1) = some (.int .i64 (F i).r) ∧ w.cell? ((a.add (i * 4)).add 2) = some (.int .i64 (F i).l) ∧ w.cell? ((a.add (i * 4)).add 3) = some (.int .i64 (F i).c) :=
      ⟨fun i => (pick i).choose, fun i => (pick i).choose_spec⟩
    have hg : ∀ i, i < n → bAt ((List.range n).map F) i = F i := fun i hi => by simp [bAt, List.getD, hi]
    refine ⟨some a, n, c, (List.range n).map F, rfl, ⟨by simp, fun i hi => by rw [hg i hi]; exact (hX i hi).1, fun hpos => ?_⟩, by omega⟩
    obtain ⟨b, off, spot⟩ := a
    have q0 := (hX 0 hpos).2.1
    have hspot : spot = none := by
      have := World.cell?_spot q0
      simpa [Addr.add] using this
    subst hspot
    have hblk : b < w.heap.size := by
      have := World.block_lt_of_cell? w _ q0
      simpa [Addr.add] using this
    refine ⟨b, off, rfl, hblk, fun i hi => ?_⟩
    rw [hg i hi]
    obtain ⟨_, a0, a1, a2, a3⟩ := hX i hi
    have ad : ∀ j, ((⟨b, off, none⟩ : Addr).add (i * 4)).add j = ⟨b, off + i * 4 + j, none⟩ := fun j => by rw [add_plain, add_plain]
    rw [ad] at a0 a1 a2 a3
    exact ⟨a0, a1, a2, a3⟩
end
end Go.Proofs.Ytgojebiipcngoaa.BlsO

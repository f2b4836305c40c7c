/- A byte slice opened: what a law's []byte holds in memory. -/
import Derived.Test.YtlknncmnphbpkaaGreatDoorSrcA
import Derived.Deep.Slices
import Derived.Deep.Fields
import Derived.ChangeSame
import Derived.ChangeSlices
namespace Go.Proofs.YtlknncmnphbpkaaGreatDoor.BysO
open Go.ChangeShapes Go.WideShapes Go.RowKit Go.Deep
open Go.Proofs.YtlknncmnphbpkaaGreatDoor.SrcA (Bys)
variable {H : Type} {enc : TypeId × Value → H} {P : Program} {w : World} {base : Nat} {spare : Nat → Bool} {held : Bool}
theorem add_plain (b o k : Nat) : (⟨b, o, none⟩ : Addr).add k = ⟨b, o + k, none⟩ := by unfold Addr.add; split <;> simp_all
theorem wf8 {n : Int} (h : (Lit.int .u8 n).wf = true) : 0 ≤ n ∧ n ≤ 255 := by
  have hmin : IntKind.u8.min = 0 := rfl
  have hmax : IntKind.u8.max = 255 := rfl
  simp only [Lit.wf, Bool.and_eq_true, decide_eq_true_eq] at h
  omega
theorem open_bytes {r : Reach} {b0 : Nat} {t e : TypeId} {v : Value} {d : DataW H} {p : List MemPlace}
    (ht : P.underlying t = some (.slice e)) (he : P.underlying e = some (.int .u8)) (hC : P.cellsOf e = 1)
    (hv : Value.okWide P w r b0 t v) (h : DataW.Trod enc P w base spare held t v d p) :
    ∃ (A : Option Addr) (n c : Nat), v = .slice A n c ∧ Bys w w.heap.size A n ∧ n ≤ 9223372036854775807 := by
  obtain ⟨A, n, c, rfl⟩ := okWide_slice ht hv
  obtain ⟨fuel, hf⟩ := h
  rcases open_ints ht he hC hf with ⟨hc, _⟩ | ⟨a, len, cap, zs, hc, _, hl, hm, hmm, _, hall, hwf⟩
  · have e0 : Value.slice A n c = .slice none 0 0 := by simpa [Value.cells] using hc
    injection e0 with e1 e2 e3
    subst e1; subst e2; subst e3
    exact ⟨none, 0, 0, rfl, fun hn => by omega, by omega⟩
  · have e0 : Value.slice A n c = .slice (some a) len cap := by simpa [Value.cells] using hc
    injection e0 with e1 e2 e3
    subst e1; subst e2; subst e3
    have hlm : n ≤ zs.length := by rw [hmm]; split <;> omega
    unfold maxLen at hm
    refine ⟨some a, n, c, rfl, fun hpos => ?_, by omega⟩
    obtain ⟨b, off, spot⟩ := a
    have q0 := hall 0 (by omega)
    have hspot : spot = none := by
      have := World.cell?_spot q0
      simpa [Addr.add] using this
    subst hspot
    have hblk : b < w.heap.size := by
      have := World.block_lt_of_cell? w _ q0
      simpa [Addr.add] using this
    refine ⟨b, off, rfl, hblk, fun i hi => ?_⟩
    have hw := wf8 (hwf (zs.getD i 0) (by
      rw [List.getD_eq_getElem?_getD, List.getElem?_eq_getElem (show i < zs.length by omega)]
      exact List.getElem_mem _))
    refine ⟨zs.getD i 0, hw.1, hw.2, ?_⟩
    rw [← add_plain]
    exact hall i (by omega)
end Go.Proofs.YtlknncmnphbpkaaGreatDoor.BysO

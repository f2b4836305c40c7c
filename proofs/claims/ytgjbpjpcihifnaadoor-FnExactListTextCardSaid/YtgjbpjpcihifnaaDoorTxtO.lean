/- An argument that is a slice of int64 is opened; the law of texts of lists. -/
import Derived.Test.YtgjbpjpcihifnaaDoorTxtH
import Derived.Deep.Slices
import Derived.Deep.Fields
import Derived.ChangeSame
import Derived.ChangeSlices
namespace Go.Proofs.YtgjbpjpcihifnaaDoor.TxtO
open Go.ChangeShapes Go.WideShapes Go.RowKit Go.Deep Go.Proofs.YtgjbpjpcihifnaaDoor.TxtA Go.Proofs.YtgjbpjpcihifnaaDoor.TxtB Go.Proofs.YtgjbpjpcihifnaaDoor.TxtC Go.Proofs.YtgjbpjpcihifnaaDoor.TxtG Go.Proofs.YtgjbpjpcihifnaaDoor.TxtH
section
variable {H : Type} {enc : TypeId × Value → H} {P : Program} {w : World} {base : Nat} {spare : Nat → Bool} {held : Bool}
theorem add_plain (b o k : Nat) : (⟨b, o, none⟩ : Addr).add k = ⟨b, o + k, none⟩ := by unfold Addr.add; split <;> simp_all
theorem open_intsL {r : Reach} {b0 : Nat} {t e : TypeId} {v : Value} {d : DataW H} {p : List MemPlace}
    (ht : P.underlying t = some (.slice e)) (he : P.underlying e = some (.int .i64)) (hC : P.cellsOf e = 1)
    (hv : Value.okWide P w r b0 t v) (h : DataW.Trod enc P w base spare held t v d p) :
    ∃ (A : Option Addr) (n c : Nat) (l : List Int), v = .slice A n c ∧ Ints w w.heap.size A n l ∧ n ≤ 9223372036854775807 := by
  obtain ⟨A, n, c, rfl⟩ := okWide_slice ht hv
  obtain ⟨fuel, hf⟩ := h
  rcases open_ints ht he hC hf with ⟨hc, _⟩ | ⟨a, len, cap, zs, hc, _, hl, hm, hmm, _, hall, hwf⟩
  · have e0 : Value.slice A n c = .slice none 0 0 := by simpa [Value.cells] using hc
    injection e0 with e1 e2 e3
    subst e1; subst e2; subst e3
    exact ⟨none, 0, 0, [], rfl, ⟨rfl, fun i hi => by omega, fun hn => by omega⟩, by omega⟩
  · have e0 : Value.slice A n c = .slice (some a) len cap := by simpa [Value.cells] using hc
    injection e0 with e1 e2 e3
    subst e1; subst e2; subst e3
    have hlm : n ≤ zs.length := by rw [hmm]; split <;> omega
    unfold maxLen at hm
    have hg : ∀ i, i < n → iAt (zs.take n) i = zs.getD i 0 := fun i hi => by simp [iAt, List.getD_eq_getElem?_getD, hi]
    refine ⟨some a, n, c, zs.take n, rfl, ⟨by rw [List.length_take]; omega, fun i hi => ?_, fun hpos => ?_⟩, by omega⟩
    · rw [hg i hi]
      refine wf64 (hwf _ ?_)
      rw [List.getD_eq_getElem?_getD, List.getElem?_eq_getElem (show i < zs.length by omega)]
      exact List.getElem_mem _
    · obtain ⟨b, off, spot⟩ := a
      have q0 := hall 0 (by omega)
      have hspot : spot = none := by
        have := World.cell?_spot q0
        simpa [Addr.add] using this
      subst hspot
      have hblk : b < w.heap.size := by
        have := World.block_lt_of_cell? w _ q0
        simpa [Addr.add] using this
      refine ⟨b, off, rfl, hblk, fun i hi => ?_⟩
      rw [hg i hi, ← add_plain]
      exact hall i (by omega)
end
theorem listText_law (A : Option Addr) (n c : Nat) (l : List Int) (w : World) (ht : Tab w) (hs : Ints w w.heap.size A n l) (_ : n ≤ 9223372036854775807) :
    Calls Tryd.prog 5 #[.slice A n c] w fun e w' => e = .returned (.bool true) ∧ Below w.heap.size w w' := by
  have b : Below w.heap.size w w := Below.refl _ _
  by_cases h : (n : Int) ≤ 1048576
  · have hn : n ≤ 1048576 := by omega
    have HT := Lib.hid (fun W (hb : Below w.heap.size w W) => toInts_any A n c l W (hs.below hb hb.size) hn)
    have HS := Lib.hid (fun W A' c' (hs' : Ints W W.heap.size A' n l) => specListText_any A' n c' l W hs' hn)
    have HI := Lib.hid (fun W A' c' (hb : Below w.heap.size w W) (hs' : Ints W W.heap.size A' n l) => implListText_any A' n c' l W hs' hn (ht.below hb))
    have HE := Lib.hid (fun W A1 c1 A2 c2 (h1 : Ints W W.heap.size A1 n l) (h2 : Ints W W.heap.size A2 n l) => eqInts_any A1 A2 n c1 c2 l W h1 h2 hn)
    obtain ⟨rfl, _⟩ := hs
    clear ht hn
    go_enter Tryd.func5, Tryd.ntmps5
    go_wp2_with fail
    refine (HT.out _ b).mono ?_
    rintro e w1 ⟨g1, rfl, hs1, hb1⟩
    have b := b.trans (hb1.mono b.size)
    clear hb1
    go_wp2_with fail
    refine (HS.out _ _ _ hs1).mono ?_
    rintro e w2 ⟨rfl, hb2⟩
    have b := b.trans (hb2.mono b.size)
    clear hb2 hs1
    go_wp2_with fail
    refine (HT.out _ b).mono ?_
    rintro e w3 ⟨g3, rfl, hs3, hb3⟩
    have b := b.trans (hb3.mono b.size)
    clear hb3
    go_wp2_with fail
    refine (HI.out _ _ _ b hs3).mono ?_
    rintro e w4 ⟨rfl, hb4⟩
    have hs4 := hs3.below hb4 hb4.size
    have b := b.trans (hb4.mono b.size)
    clear hb4 hs3
    go_wp2_with fail
    refine (HT.out _ b).mono ?_
    rintro e w5 ⟨g5, rfl, hs5, hb5⟩
    have hs6 := hs4.below hb5 hb5.size
    have b := b.trans (hb5.mono b.size)
    clear hb5 hs4
    go_wp2_with fail
    refine (HE.out _ _ _ _ _ hs6 hs5).mono ?_
    rintro e w6 ⟨rfl, m, rfl⟩
    have hb6 : Below w5.heap.size w5 (w5.drewN m) := ⟨rfl, rfl, rfl, Nat.le_refl _, fun _ _ => rfl⟩
    have b := b.trans (hb6.mono b.size)
    clear hb6
    go_wp2_with fail
    go_ret
    exact ⟨rfl, b⟩
  · clear hs ht
    go_enter Tryd.func5, Tryd.ntmps5
    go_wp2_with fail
    go_ret
    exact ⟨rfl, b⟩
end Go.Proofs.YtgjbpjpcihifnaaDoor.TxtO

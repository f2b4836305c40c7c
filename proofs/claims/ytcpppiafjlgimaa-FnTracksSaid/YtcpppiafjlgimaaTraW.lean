/- Plain facts on the cut and the joined track of a drawn one. -/
import Derived.Test.YtcpppiafjlgimaaTraP
namespace Go.Proofs.Ytcpppiafjlgimaa.TraW
set_option maxRecDepth 100000
open Go.RowKit Go.Proofs.Ytcpppiafjlgimaa.Plain Go.Proofs.Ytcpppiafjlgimaa.TrkP Go.Proofs.Ytcpppiafjlgimaa.TrkE Go.Proofs.Ytcpppiafjlgimaa.TrkF Go.Proofs.Ytcpppiafjlgimaa.TrkG Go.Proofs.Ytcpppiafjlgimaa.TrkH Go.Proofs.Ytcpppiafjlgimaa.TrkJ Go.Proofs.Ytcpppiafjlgimaa.TrkT Go.Proofs.Ytcpppiafjlgimaa.TrkV Go.Proofs.Ytcpppiafjlgimaa.SrcT Go.Proofs.Ytcpppiafjlgimaa.TraP

theorem onB_yes {l : List (Int × Int)} {lf lu x : Int} (hv : Valid l lf lu) (hx : 0 ≤ x ∧ x ≤ lenAll l) : onB l lf lu x = true ∧ onI l lf lu x = 0 := by
  have a := trackB_iff.2 hv
  have b := inB_iff.2 hx
  exact ⟨by simp [onB, a, b], onI_in a b⟩
theorem drawn_cut {l : List (Int × Int)} {lf lu x : Int} (h : DrawnT l lf lu) (hx : 0 ≤ x ∧ x ≤ lenAll l) :
    l.length ≤ (cutTo l x l.length).length ∧ (cutTo l x l.length).length ≤ l.length + 1 ∧ Valid (cutTo l x l.length) lf lu ∧ lenAll (cutTo l x l.length) = lenAll l ∧ InS 3000000 (cutTo l x l.length) ∧
    cutL l lf lu x = cutTo l x l.length ∧ vI (cutOk l lf lu x) lf = lf ∧ vI (cutOk l lf lu x) lu = lu ∧ cutC l lf lu x = 0 := by
  have hg := h.good
  obtain ⟨a, b, -⟩ := cut_count (l := l) (x := x) l.length (fun j hj => by have := (hg.2 j hj).1; omega)
  have hin := cut_in (x := x) l.length (Nat.le_refl _) (GoodD.ins hg)
  have hle := (cut_all l x 0 l.length).2
  have hv := h.valid
  have h5 := hg.1
  have h1 := h.some_
  have hlen := h.len
  have hle2 : lenAll (cutTo l x l.length) = lenAll l := hle
  have hval : Valid (cutTo l x l.length) lf lu := ⟨InS.good hin (by omega), by omega, by rw [hle2]; exact hv.len, by rw [hle2]; exact hv.from_, by rw [hle2]; exact hv.until_⟩
  obtain ⟨e1, e2, e3, e4⟩ := cut_ok (l := l) (lf := lf) (lu := lu) (x := x) (onB_yes hv hx).1 (by omega)
  exact ⟨a, b, hval, hle2, hin, e1, e2, e3, e4⟩
theorem drawn_join {l : List (Int × Int)} {lf lu : Int} (hv : Valid l lf lu) (hin : InS 3000000 l) (hlen : 1 ≤ lenAll l) :
    (joinTo l l.length).length ≤ l.length ∧ Valid (joinTo l l.length) lf lu ∧ lenAll (joinTo l l.length) = lenAll l ∧ Apart (joinTo l l.length) ∧ joinL l lf lu = joinTo l l.length := by
  obtain ⟨-, hle, hi⟩ := join_all (y := 0) l.length (Nat.le_refl _) hin
  have hle2 : lenAll (joinTo l l.length) = lenAll l := hle
  have ha := joinTo_len l l.length
  have hi2 : InS 3000000 (joinTo l l.length) := hi.more (show lenTo l l.length ≤ 3000000 from hv.len)
  have h0 : 1 ≤ (joinTo l l.length).length := by
    rcases Nat.eq_zero_or_pos (joinTo l l.length).length with h | h
    · exfalso
      have e : lenAll (joinTo l l.length) = 0 := by unfold lenAll; rw [h]; rfl
      omega
    · exact h
  have hg := hv.good.1
  exact ⟨ha, ⟨InS.good hi2 (by omega), h0, by rw [hle2]; exact hv.len, by rw [hle2]; exact hv.from_, by rw [hle2]; exact hv.until_⟩, hle2, join_apart l l.length, joinL_yes (trackB_iff.2 hv)⟩
theorem steep_facts {l : List (Int × Int)} (h : 1 ≤ l.length) : steepN l < l.length ∧ ∀ q, q < l.length → secG l q ≤ secG l (steepN l) := by
  have hb := bestGo_is (l := l) l.length h
  exact ⟨hb.1, hb.2.1⟩
end Go.Proofs.Ytcpppiafjlgimaa.TraW

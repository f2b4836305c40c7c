/- The walks of distances, of the loop's places and of the safe distance, program and reference. -/
import Derived.Test.YtcpppiafjlgimaaTrkJ
namespace Go.Proofs.Ytcpppiafjlgimaa.TrkK
open Go.RowKit Go.Proofs.Ytcpppiafjlgimaa.Plain Go.Proofs.Ytcpppiafjlgimaa.TrkP Go.Proofs.Ytcpppiafjlgimaa.WalkA Go.Proofs.Ytcpppiafjlgimaa.TrkA Go.Proofs.Ytcpppiafjlgimaa.TrkB Go.Proofs.Ytcpppiafjlgimaa.TrkC Go.Proofs.Ytcpppiafjlgimaa.TrkD Go.Proofs.Ytcpppiafjlgimaa.TrkE Go.Proofs.Ytcpppiafjlgimaa.TrkF Go.Proofs.Ytcpppiafjlgimaa.TrkG Go.Proofs.Ytcpppiafjlgimaa.TrkH Go.Proofs.Ytcpppiafjlgimaa.TrkI Go.Proofs.Ytcpppiafjlgimaa.TrkJ

def maxI (a b : Int) : Int := if b < a then a else b
theorem absI_max (d : Int) : maxI d (-d) = absI d := by unfold maxI absI; split <;> split <;> omega
def lowL (l : List (Int × Int)) (lf lu : Int) : Int := maxI lf (lenAll l - lu)
def highL (l : List (Int × Int)) (lf lu : Int) : Int := minI lu (lenAll l - lf)
theorem keep3 {p : Nat} {W wc w2 : World} {v0 v1 v2 : Value} (hp : p < W.heap.size) (h0 : wc.cell? ⟨p, 0, none⟩ = some v0) (h1 : wc.cell? ⟨p, 1, none⟩ = some v1) (h2 : wc.cell? ⟨p, 2, none⟩ = some v2)
    (hb : Below W.heap.size W wc) (h : Below wc.heap.size wc w2) :
    w2.cell? ⟨p, 0, none⟩ = some v0 ∧ w2.cell? ⟨p, 1, none⟩ = some v1 ∧ w2.cell? ⟨p, 2, none⟩ = some v2 ∧ Below W.heap.size W w2 :=
  have hp' := Nat.lt_of_lt_of_le hp hb.size
  ⟨(h.cell (p := ⟨p, 0, none⟩) hp').trans h0, (h.cell (p := ⟨p, 1, none⟩) hp').trans h1, (h.cell (p := ⟨p, 2, none⟩) hp').trans h2, hb.trans (h.mono hb.size)⟩
theorem drew3 {p : Nat} {W wc : World} {v0 v1 v2 : Value} {m : Nat} (h0 : wc.cell? ⟨p, 0, none⟩ = some v0) (h1 : wc.cell? ⟨p, 1, none⟩ = some v1) (h2 : wc.cell? ⟨p, 2, none⟩ = some v2)
    (hb : Below W.heap.size W wc) :
    (wc.drewN m).cell? ⟨p, 0, none⟩ = some v0 ∧ (wc.drewN m).cell? ⟨p, 1, none⟩ = some v1 ∧ (wc.drewN m).cell? ⟨p, 2, none⟩ = some v2 ∧ Below W.heap.size W (wc.drewN m) :=
  ⟨h0, h1, h2, hb.trans (drew_below rfl _)⟩
theorem ret3_true {x y : Value} {b c : Int} (h : b ≤ c) : Ending.returned (.tuple #[x, y, .bool true]) = .returned (.tuple #[x, y, .bool (decide (b ≤ c))]) := by rw [decide_eq_true h]
end Go.Proofs.Ytcpppiafjlgimaa.TrkK

/- The walks of distances, of the loop's places and of the safe distance, program and reference. -/
import Derived.Test.YthdebcdbghgfaaaTrkJ
namespace Go.Proofs.Ythdebcdbghgfaaa.TrkK
open Go.RowKit Go.Proofs.Ythdebcdbghgfaaa.Plain Go.Proofs.Ythdebcdbghgfaaa.TrkP Go.Proofs.Ythdebcdbghgfaaa.WalkA Go.Proofs.Ythdebcdbghgfaaa.TrkA Go.Proofs.Ythdebcdbghgfaaa.TrkB Go.Proofs.Ythdebcdbghgfaaa.TrkC Go.Proofs.Ythdebcdbghgfaaa.TrkD Go.Proofs.Ythdebcdbghgfaaa.TrkE Go.Proofs.Ythdebcdbghgfaaa.TrkF Go.Proofs.Ythdebcdbghgfaaa.TrkG Go.Proofs.Ythdebcdbghgfaaa.TrkH Go.Proofs.Ythdebcdbghgfaaa.TrkI Go.Proofs.Ythdebcdbghgfaaa.TrkJ

def maxI (a b : Int) : Int := if b < a then a else b
theorem absI_max (d : Int) : maxI d (-d) = absI d := by unfold maxI absI; split <;> split <;> omega
def lowL (l : List (Int × Int)) (lf lu : Int) : Int := maxI lf (lenAll l - lu)
def highL (l : List (Int × Int)) (lf lu : Int) : Int := minI lu (lenAll l - lf)
theorem keep3 {p : Nat} {W wc w2 : World} {v0 v1 v2 : Value} (hp : p < W.heap.size) (h0 : wc.cell? ⟨p, 0, none⟩ = some v0) (h1 : wc.cell? ⟨p, 1, none⟩ = some v1) (h2 : wc.cell? ⟨p, 2, none⟩ = some v2)
    (hb : Below W.heap.size W wc) (h : Below wc.heap.size wc w2) :
    w2.cell? ⟨p, 0, none⟩ = some v0 ∧ w2.cell? ⟨p, 1, none⟩ = some v1 ∧ w2.cell? ⟨p, 2, none⟩ = some v2 ∧ Below W.heap.size W w2 :=
  have hp' := Nat.lt_of_lt_of_le hp hb.size
  ⟨(h.cell (p := ⟨p, 0, none⟩) hp').trans h0, (h.cell (p := ⟨p, 1, none⟩) hp').trans h1, (h.cell (p := ⟨p, 2, none⟩) hp').trans h2, hb.trans (h.mono hb.size)⟩
theorem drew3 {p : Nat} {W wc : World} {v0 v1 v2 : Value} {m : Nat} (h0 : wc.cell? ⟨p, 0, none⟩ = some v0) (h1 : wc.cell? ⟨p, 1, none⟩ = some v1) (h2 : wc.cell? ⟨p, 2, none⟩ = some v2)
    (hb : Below W.heap.size W wc) :
    (wc.drewN m).cell? ⟨p, 0, none⟩ = some v0 ∧ (wc.drewN m).cell? ⟨p, 1, none⟩ = some v1 ∧ (wc.drewN m).cell? ⟨p, 2, none⟩ = some v2 ∧ Below W.heap.size W (wc.drewN m) :=
  ⟨h0, h1, h2, hb.trans (drew_below rfl _)⟩
theorem ret3_true {x y : Value} {b c : Int} (h : b ≤ c) : Ending.returned (.tuple #[x, y, .bool true]) = .returned (.tuple #[x, y, .bool (decide (b ≤ c))]) := by rw [decide_eq_true h]
end Go.Proofs.Ythdebcdbghgfaaa.TrkK

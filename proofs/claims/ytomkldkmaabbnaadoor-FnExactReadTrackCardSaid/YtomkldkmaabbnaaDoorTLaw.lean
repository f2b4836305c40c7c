/- The walk of the law on ValidTrack. -/
import Derived.Test.YtomkldkmaabbnaaDoorTrkD
namespace Go.Proofs.YtomkldkmaabbnaaDoor.TLaw
open Go.RowKit Go.Proofs.YtomkldkmaabbnaaDoor.Plain Go.Proofs.YtomkldkmaabbnaaDoor.TrkP Go.Proofs.YtomkldkmaabbnaaDoor.WalkA Go.Proofs.YtomkldkmaabbnaaDoor.TrkA Go.Proofs.YtomkldkmaabbnaaDoor.TrkB Go.Proofs.YtomkldkmaabbnaaDoor.TrkC Go.Proofs.YtomkldkmaabbnaaDoor.TrkD

theorem keep6 {p q : Nat} {W wc w2 : World} {v0 v1 v2 u0 u1 u2 : Value} (hp : p < W.heap.size) (hq : q < W.heap.size) (h0 : wc.cell? ⟨p, 0, none⟩ = some v0) (h1 : wc.cell? ⟨p, 1, none⟩ = some v1) (h2 : wc.cell? ⟨p, 2, none⟩ = some v2)
    (k0 : wc.cell? ⟨q, 0, none⟩ = some u0) (k1 : wc.cell? ⟨q, 1, none⟩ = some u1) (k2 : wc.cell? ⟨q, 2, none⟩ = some u2) (hb : Below W.heap.size W wc) (h : Below wc.heap.size wc w2) :
    w2.cell? ⟨p, 0, none⟩ = some v0 ∧ w2.cell? ⟨p, 1, none⟩ = some v1 ∧ w2.cell? ⟨p, 2, none⟩ = some v2 ∧ w2.cell? ⟨q, 0, none⟩ = some u0 ∧ w2.cell? ⟨q, 1, none⟩ = some u1 ∧ w2.cell? ⟨q, 2, none⟩ = some u2 ∧ Below W.heap.size W w2 :=
  have hp' := Nat.lt_of_lt_of_le hp hb.size
  have hq' := Nat.lt_of_lt_of_le hq hb.size
  ⟨(h.cell (p := ⟨p, 0, none⟩) hp').trans h0, (h.cell (p := ⟨p, 1, none⟩) hp').trans h1, (h.cell (p := ⟨p, 2, none⟩) hp').trans h2, (h.cell (p := ⟨q, 0, none⟩) hq').trans k0, (h.cell (p := ⟨q, 1, none⟩) hq').trans k1, (h.cell (p := ⟨q, 2, none⟩) hq').trans k2, hb.trans (h.mono hb.size)⟩

end Go.Proofs.YtomkldkmaabbnaaDoor.TLaw

/- The walks of grades, of the places of the other car and of lengths, program and reference. -/
import Derived.Test.YtnljdgmnmafopaaTrkF
namespace Go.Proofs.Ytnljdgmnmafopaa.TrkG
open Go.RowKit Go.Proofs.Ytnljdgmnmafopaa.Plain Go.Proofs.Ytnljdgmnmafopaa.TrkP Go.Proofs.Ytnljdgmnmafopaa.WalkA Go.Proofs.Ytnljdgmnmafopaa.TrkA Go.Proofs.Ytnljdgmnmafopaa.TrkB Go.Proofs.Ytnljdgmnmafopaa.TrkC Go.Proofs.Ytnljdgmnmafopaa.TrkD Go.Proofs.Ytnljdgmnmafopaa.TrkE Go.Proofs.Ytnljdgmnmafopaa.TrkF

def secGo (l : List (Int × Int)) (x : Int) : Nat → Nat → Nat
  | 0, k => k
  | f + 1, k => if k + 1 < l.length ∧ lenTo l (k + 1) ≤ x then secGo l x f (k + 1) else k
/-- The section of a place. -/
def secN (l : List (Int × Int)) (x : Int) : Nat := secGo l x l.length 0
theorem secN_is {l : List (Int × Int)} (hpos : 1 ≤ l.length) (x : Int) : IsSec l x (secN l x) := by
  have main : ∀ f k, k < l.length → l.length = k + f → (∀ j, j < k → lenTo l (j + 1) ≤ x) → IsSec l x (secGo l x f k) := by
    intro f
    induction f with
    | zero => intro k hk e; omega
    | succ f ih =>
      intro k hk e hall
      unfold secGo
      split
      · rename_i h
        exact ih (k + 1) h.1 (by omega) fun j hj => by
          by_cases ej : j = k
          · subst ej; exact h.2
          · exact hall j (by omega)
      · rename_i h
        exact ⟨hk, hall, fun h1 => by
          apply Int.not_le.1
          intro h2
          exact h ⟨h1, h2⟩⟩
  exact main l.length 0 (by omega) (by omega) fun j hj => by omega

theorem keep5 {p q o1 o2 : Nat} {W wc w2 : World} {v0 v1 v2 u0 u1 : Value} (hp : p < W.heap.size) (hq : q < W.heap.size) (h0 : wc.cell? ⟨p, 0, none⟩ = some v0) (h1 : wc.cell? ⟨p, 1, none⟩ = some v1) (h2 : wc.cell? ⟨p, 2, none⟩ = some v2)
    (k0 : wc.cell? ⟨q, o1, none⟩ = some u0) (k1 : wc.cell? ⟨q, o2, none⟩ = some u1) (hb : Below W.heap.size W wc) (h : Below wc.heap.size wc w2) :
    w2.cell? ⟨p, 0, none⟩ = some v0 ∧ w2.cell? ⟨p, 1, none⟩ = some v1 ∧ w2.cell? ⟨p, 2, none⟩ = some v2 ∧ w2.cell? ⟨q, o1, none⟩ = some u0 ∧ w2.cell? ⟨q, o2, none⟩ = some u1 ∧ Below W.heap.size W w2 :=
  have hp' := Nat.lt_of_lt_of_le hp hb.size
  have hq' := Nat.lt_of_lt_of_le hq hb.size
  ⟨(h.cell (p := ⟨p, 0, none⟩) hp').trans h0, (h.cell (p := ⟨p, 1, none⟩) hp').trans h1, (h.cell (p := ⟨p, 2, none⟩) hp').trans h2, (h.cell (p := ⟨q, o1, none⟩) hq').trans k0, (h.cell (p := ⟨q, o2, none⟩) hq').trans k1, hb.trans (h.mono hb.size)⟩
theorem quiet_left {P : Program} {f : FuncId} {args : Array Value} {w : World} {n : Nat} {v : Value}
    (h : Calls P f args (w.drewN n) fun e w' => e = .returned v ∧ w.drewN n = w') : Calls P f args (w.drewN n) fun e w'' => e = .returned v ∧ ∃ m, w'' = w.drewN m :=
  h.mono fun _ _ ⟨he, hm⟩ => ⟨he, n, hm.symm⟩
end Go.Proofs.Ytnljdgmnmafopaa.TrkG

/- The law on cars, in the frame's order. -/
import Derived.Test.YtiibpchbjaklcaaCarL
import Derived.Test.YtiibpchbjaklcaaBysO
namespace Go.Proofs.Ytiibpchbjaklcaa.CarL
open Go.RowKit
open Go.Proofs.Ytiibpchbjaklcaa.SrcA (Bys)
theorem fnCars_law (A : Option Addr) (n c : Nat) (A' : Option Addr) (n' c' : Nat) (w : World) (hA : Bys w w.heap.size A n) (hn : n ≤ 9223372036854775807) (hA' : Bys w w.heap.size A' n') (hn' : n' ≤ 9223372036854775807) :
    Calls Try.prog 3 #[.slice A n c, .slice A' n' c'] w fun e w' => e = .returned (.bool true) ∧ Below w.heap.size w w' :=
  fnCars A A' n n' c c' w hA hA' hn hn'
end Go.Proofs.Ytiibpchbjaklcaa.CarL

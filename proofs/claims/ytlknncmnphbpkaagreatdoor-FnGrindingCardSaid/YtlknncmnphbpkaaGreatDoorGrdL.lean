/- The law on grinding, out of its parts. -/
import Derived.Test.YtlknncmnphbpkaaGreatDoorGrdB
import Derived.Test.YtlknncmnphbpkaaGreatDoorGrdC
import Derived.Test.YtlknncmnphbpkaaGreatDoorGrdS
import Derived.Test.YtlknncmnphbpkaaGreatDoorBysO
namespace Go.Proofs.YtlknncmnphbpkaaGreatDoor.GrdL
open Go.RowKit Go.Proofs.YtlknncmnphbpkaaGreatDoor.Plain Go.Proofs.YtlknncmnphbpkaaGreatDoor.GrdA Go.Proofs.YtlknncmnphbpkaaGreatDoor.TxtT Go.Proofs.YtlknncmnphbpkaaGreatDoor.TxtP
open Go.Proofs.YtlknncmnphbpkaaGreatDoor.SrcA (Bys)
theorem fnGrinding_law (A : Option Addr) (n c : Nat) (A' : Option Addr) (n' c' : Nat) (w : World) (hT : Shp w) (hE : Env w) (hA : Bys w w.heap.size A n) (hn : n ≤ 9223372036854775807) (hA' : Bys w w.heap.size A' n') (hn' : n' ≤ 9223372036854775807) :
    Calls Tryz.prog 3 #[.slice A n c, .slice A' n' c'] w fun e w' => e = .returned (.bool true) ∧ Below w.heap.size w w' :=
  GrdC.head A A' n n' c c' w hA hn hn' (Lib.hid fun h1 h2 => GrdB.part5 A A' n n' c c' w (Lib.hid hA') h2 (Lib.hid (GrdS.part8 A A' n n' c c' w (Lib.hid hA) h1 (Lib.hid hT) (Lib.hid hE))))
end Go.Proofs.YtlknncmnphbpkaaGreatDoor.GrdL

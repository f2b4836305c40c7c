/- The law on tracks, in the frame's order. -/
import Derived.Test.YtcpppiafjlgimaaTraH
import Derived.Test.YtcpppiafjlgimaaBysO
namespace Go.Proofs.Ytcpppiafjlgimaa.TraH
open Go.RowKit
open Go.Proofs.Ytcpppiafjlgimaa.SrcA (Bys)
theorem fnTracks_law (A : Option Addr) (n c : Nat) (A' : Option Addr) (n' c' : Nat) (w : World) (hA : Bys w w.heap.size A n) (hn : n ≤ 9223372036854775807) (hA' : Bys w w.heap.size A' n') (hn' : n' ≤ 9223372036854775807) :
    Calls Try.prog 3 #[.slice A n c, .slice A' n' c'] w fun e w' => e = .returned (.bool true) ∧ Below w.heap.size w w' :=
  fnTracks A A' n n' c c' w hA hA' hn hn'
end Go.Proofs.Ytcpppiafjlgimaa.TraH

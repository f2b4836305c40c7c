/- The laws' walks of the side of a bend. -/
import Derived.Test.YtmjjobfaboljpaaBndA
import Derived.Test.YtmjjobfaboljpaaBOpen
namespace Go.Proofs.Ytmjjobfaboljpaa.BLaw
open Go.RowKit Go.Proofs.Ytmjjobfaboljpaa.Plain Go.Proofs.Ytmjjobfaboljpaa.WalkA Go.Proofs.Ytmjjobfaboljpaa.WalkB Go.Proofs.Ytmjjobfaboljpaa.WalkC Go.Proofs.Ytmjjobfaboljpaa.WalkF Go.Proofs.Ytmjjobfaboljpaa.WalkH Go.Proofs.Ytmjjobfaboljpaa.BndA

def szB (n : Nat) : Int := if (n : Int) ≤ 1048576 then 1048576 - (n : Int) else -1
theorem szB_in {n : Nat} (h : (n : Int) ≤ 1048576) : szB n = 1048576 - (n : Int) := if_pos h
theorem szB_out {n : Nat} (h : ¬ (n : Int) ≤ 1048576) : szB n = -1 := if_neg h
end Go.Proofs.Ytmjjobfaboljpaa.BLaw

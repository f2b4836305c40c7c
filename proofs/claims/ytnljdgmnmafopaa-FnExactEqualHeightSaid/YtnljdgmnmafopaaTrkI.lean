/- The walks of the steepest section and of the place of a height, program and reference. -/
import Derived.Test.YtnljdgmnmafopaaTrkH
import Derived.Test.YtnljdgmnmafopaaLeast
namespace Go.Proofs.Ytnljdgmnmafopaa.TrkI
open Go.RowKit Go.Proofs.Ytnljdgmnmafopaa.Plain Go.Proofs.Ytnljdgmnmafopaa.TrkP Go.Proofs.Ytnljdgmnmafopaa.WalkA Go.Proofs.Ytnljdgmnmafopaa.TrkA Go.Proofs.Ytnljdgmnmafopaa.TrkB Go.Proofs.Ytnljdgmnmafopaa.TrkC Go.Proofs.Ytnljdgmnmafopaa.TrkD Go.Proofs.Ytnljdgmnmafopaa.TrkE Go.Proofs.Ytnljdgmnmafopaa.TrkF Go.Proofs.Ytnljdgmnmafopaa.TrkG Go.Proofs.Ytnljdgmnmafopaa.TrkH Go.Proofs.Ytnljdgmnmafopaa.Least

theorem ret_pair {a b c d : Int} (h : a = c) (k : b = d) : Ending.returned (.tuple #[.int .i64 a, .int .i64 b]) = .returned (.tuple #[.int .i64 c, .int .i64 d]) := by rw [h, k]
end Go.Proofs.Ytnljdgmnmafopaa.TrkI

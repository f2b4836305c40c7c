/-
  No cell of these rows narrows 'for every input' (looked for: loops, veiled, ifaces, maps, wideKeys, modest, calm, conditions, laid).
  DERIVED. THE GIVEN ROWS OF THIS SEAT. 10 by the template 'for every input the law returns true; each argument reads behind the call as it read before'; 0 by the template 'total and deterministic' (their statements: YtnljdgmnmafopaaTotals.lean).
  GIVEN WITH THE SEED: the statements are not yours to turn. If you find one false, say at which input.
  Laid BY PROGRAM, IN A SANDBOX (cutbox-rows.mjs): the forced cells as the released guide's own fill.sh prints them over the translation c3d399f78289a244… (all of the seat's roots in one cut). By AI agents, Wed Nov 11 2026. No macro, syntax, notation, axiom, sorry.
-/
import Derived.Test.YtnljdgmnmafopaaChecked
import GoSem.Claim
import GoSem.ClaimJoined
import GoSem.ClaimMapViews
import Derived.JoinedTies
import Derived.KernelRfl
namespace Go.Proofs.Ytnljdgmnmafopaa
/- THE CELL 'sum', in the pinned program and in every row, IS THE sha256 OF THE DUMP (.gsa) THAT YtnljdgmnmafopaaProg.lean LOADS. Nothing in Lean hashes anything: it is a label: what it is worth is what the hold of that sum in a sandbox is worth. -/
noncomputable def Try.pinned : Pinned := { name := "ytnljdgmnmafopaa", sum := "c3d399f78289a24440d39f764bd472667d00b27317626080dae80ba925ff57ad", checked := Try.checked }
namespace Rows
def none {H : Type} : Left H := { results := [], args := [] }

/-- 'laws.FnExactLoopPlaces': WHATEVER THE INPUT: true; the input reads as it did. -/
def fnExactLoopPlacesSpec : ChangeSpec := { name := "fnExactLoopPlaces", fn := fun _ => fun
  | [d] => { results := [.lit (.bool true)], args := [d] }
  | _ => none }
def fnExactLoopPlacesRow : OpenClaim := { program := "ytnljdgmnmafopaa", sum := "c3d399f78289a24440d39f764bd472667d00b27317626080dae80ba925ff57ad", func := "loop.example/g01057/laws.FnExactLoopPlaces", spec := "fnExactLoopPlaces", apart := false }
def FnExactLoopPlacesSaid : Prop := fnExactLoopPlacesRow.holds Try.pinned (OpenSpec.ofChange fnExactLoopPlacesSpec)

/-- ITS FALSE NEIGHBOUR: 'it returns false'. Refute it at one input. -/
def fnExactLoopPlacesWrong : ChangeSpec := { name := "fnExactLoopPlaces", fn := fun _ => fun
  | [d] => { results := [.lit (.bool false)], args := [d] }
  | _ => none }
def FnExactLoopPlacesWrongFalsely : Prop := fnExactLoopPlacesRow.holds Try.pinned (OpenSpec.ofChange fnExactLoopPlacesWrong)

/-- 'laws.FnExactBothInLoop': WHATEVER THE INPUT: true; the input reads as it did. -/
def fnExactBothInLoopSpec : ChangeSpec := { name := "fnExactBothInLoop", fn := fun _ => fun
  | [d1, d2] => { results := [.lit (.bool true)], args := [d1, d2] }
  | _ => none }
def fnExactBothInLoopRow : OpenClaim := { program := "ytnljdgmnmafopaa", sum := "c3d399f78289a24440d39f764bd472667d00b27317626080dae80ba925ff57ad", func := "loop.example/g01057/laws.FnExactBothInLoop", spec := "fnExactBothInLoop", apart := false }
def FnExactBothInLoopSaid : Prop := fnExactBothInLoopRow.holds Try.pinned (OpenSpec.ofChange fnExactBothInLoopSpec)

/-- ITS FALSE NEIGHBOUR: 'it returns false'. Refute it at one input. -/
def fnExactBothInLoopWrong : ChangeSpec := { name := "fnExactBothInLoop", fn := fun _ => fun
  | [d1, d2] => { results := [.lit (.bool false)], args := [d1, d2] }
  | _ => none }
def FnExactBothInLoopWrongFalsely : Prop := fnExactBothInLoopRow.holds Try.pinned (OpenSpec.ofChange fnExactBothInLoopWrong)

/-- 'laws.FnExactCarsApart': WHATEVER THE INPUT: true; the input reads as it did. -/
def fnExactCarsApartSpec : ChangeSpec := { name := "fnExactCarsApart", fn := fun _ => fun
  | [d1, d2] => { results := [.lit (.bool true)], args := [d1, d2] }
  | _ => none }
def fnExactCarsApartRow : OpenClaim := { program := "ytnljdgmnmafopaa", sum := "c3d399f78289a24440d39f764bd472667d00b27317626080dae80ba925ff57ad", func := "loop.example/g01057/laws.FnExactCarsApart", spec := "fnExactCarsApart", apart := false }
def FnExactCarsApartSaid : Prop := fnExactCarsApartRow.holds Try.pinned (OpenSpec.ofChange fnExactCarsApartSpec)

/-- ITS FALSE NEIGHBOUR: 'it returns false'. Refute it at one input. -/
def fnExactCarsApartWrong : ChangeSpec := { name := "fnExactCarsApart", fn := fun _ => fun
  | [d1, d2] => { results := [.lit (.bool false)], args := [d1, d2] }
  | _ => none }
def FnExactCarsApartWrongFalsely : Prop := fnExactCarsApartRow.holds Try.pinned (OpenSpec.ofChange fnExactCarsApartWrong)

/-- 'laws.FnExactHeightBetween': WHATEVER THE INPUT: true; the input reads as it did. -/
def fnExactHeightBetweenSpec : ChangeSpec := { name := "fnExactHeightBetween", fn := fun _ => fun
  | [d1, d2] => { results := [.lit (.bool true)], args := [d1, d2] }
  | _ => none }
def fnExactHeightBetweenRow : OpenClaim := { program := "ytnljdgmnmafopaa", sum := "c3d399f78289a24440d39f764bd472667d00b27317626080dae80ba925ff57ad", func := "loop.example/g01057/laws.FnExactHeightBetween", spec := "fnExactHeightBetween", apart := false }
def FnExactHeightBetweenSaid : Prop := fnExactHeightBetweenRow.holds Try.pinned (OpenSpec.ofChange fnExactHeightBetweenSpec)

/-- ITS FALSE NEIGHBOUR: 'it returns false'. Refute it at one input. -/
def fnExactHeightBetweenWrong : ChangeSpec := { name := "fnExactHeightBetween", fn := fun _ => fun
  | [d1, d2] => { results := [.lit (.bool false)], args := [d1, d2] }
  | _ => none }
def FnExactHeightBetweenWrongFalsely : Prop := fnExactHeightBetweenRow.holds Try.pinned (OpenSpec.ofChange fnExactHeightBetweenWrong)

/-- 'laws.FnExactEqualHeight': WHATEVER THE INPUT: true; the input reads as it did. -/
def fnExactEqualHeightSpec : ChangeSpec := { name := "fnExactEqualHeight", fn := fun _ => fun
  | [d] => { results := [.lit (.bool true)], args := [d] }
  | _ => none }
def fnExactEqualHeightRow : OpenClaim := { program := "ytnljdgmnmafopaa", sum := "c3d399f78289a24440d39f764bd472667d00b27317626080dae80ba925ff57ad", func := "loop.example/g01057/laws.FnExactEqualHeight", spec := "fnExactEqualHeight", unfollowed := true, recurses := true, apart := false }
def FnExactEqualHeightSaid : Prop := fnExactEqualHeightRow.holds Try.pinned (OpenSpec.ofChange fnExactEqualHeightSpec)

/-- ITS FALSE NEIGHBOUR: 'it returns false'. Refute it at one input. -/
def fnExactEqualHeightWrong : ChangeSpec := { name := "fnExactEqualHeight", fn := fun _ => fun
  | [d] => { results := [.lit (.bool false)], args := [d] }
  | _ => none }
def FnExactEqualHeightWrongFalsely : Prop := fnExactEqualHeightRow.holds Try.pinned (OpenSpec.ofChange fnExactEqualHeightWrong)

/-- 'laws.FnExactJoinSections': WHATEVER THE INPUT: true; the input reads as it did. -/
def fnExactJoinSectionsSpec : ChangeSpec := { name := "fnExactJoinSections", fn := fun _ => fun
  | [d] => { results := [.lit (.bool true)], args := [d] }
  | _ => none }
def fnExactJoinSectionsRow : OpenClaim := { program := "ytnljdgmnmafopaa", sum := "c3d399f78289a24440d39f764bd472667d00b27317626080dae80ba925ff57ad", func := "loop.example/g01057/laws.FnExactJoinSections", spec := "fnExactJoinSections", apart := false }
def FnExactJoinSectionsSaid : Prop := fnExactJoinSectionsRow.holds Try.pinned (OpenSpec.ofChange fnExactJoinSectionsSpec)

/-- ITS FALSE NEIGHBOUR: 'it returns false'. Refute it at one input. -/
def fnExactJoinSectionsWrong : ChangeSpec := { name := "fnExactJoinSections", fn := fun _ => fun
  | [d] => { results := [.lit (.bool false)], args := [d] }
  | _ => none }
def FnExactJoinSectionsWrongFalsely : Prop := fnExactJoinSectionsRow.holds Try.pinned (OpenSpec.ofChange fnExactJoinSectionsWrong)

/-- 'laws.FnExactTurnTrack': WHATEVER THE INPUT: true; the input reads as it did. -/
def fnExactTurnTrackSpec : ChangeSpec := { name := "fnExactTurnTrack", fn := fun _ => fun
  | [d] => { results := [.lit (.bool true)], args := [d] }
  | _ => none }
def fnExactTurnTrackRow : OpenClaim := { program := "ytnljdgmnmafopaa", sum := "c3d399f78289a24440d39f764bd472667d00b27317626080dae80ba925ff57ad", func := "loop.example/g01057/laws.FnExactTurnTrack", spec := "fnExactTurnTrack", apart := false }
def FnExactTurnTrackSaid : Prop := fnExactTurnTrackRow.holds Try.pinned (OpenSpec.ofChange fnExactTurnTrackSpec)

/-- ITS FALSE NEIGHBOUR: 'it returns false'. Refute it at one input. -/
def fnExactTurnTrackWrong : ChangeSpec := { name := "fnExactTurnTrack", fn := fun _ => fun
  | [d] => { results := [.lit (.bool false)], args := [d] }
  | _ => none }
def FnExactTurnTrackWrongFalsely : Prop := fnExactTurnTrackRow.holds Try.pinned (OpenSpec.ofChange fnExactTurnTrackWrong)

/-- 'laws.FnExactIsSafeTrack': WHATEVER THE INPUT: true; the input reads as it did. -/
def fnExactIsSafeTrackSpec : ChangeSpec := { name := "fnExactIsSafeTrack", fn := fun _ => fun
  | [d1, d2] => { results := [.lit (.bool true)], args := [d1, d2] }
  | _ => none }
def fnExactIsSafeTrackRow : OpenClaim := { program := "ytnljdgmnmafopaa", sum := "c3d399f78289a24440d39f764bd472667d00b27317626080dae80ba925ff57ad", func := "loop.example/g01057/laws.FnExactIsSafeTrack", spec := "fnExactIsSafeTrack", apart := false }
def FnExactIsSafeTrackSaid : Prop := fnExactIsSafeTrackRow.holds Try.pinned (OpenSpec.ofChange fnExactIsSafeTrackSpec)

/-- ITS FALSE NEIGHBOUR: 'it returns false'. Refute it at one input. -/
def fnExactIsSafeTrackWrong : ChangeSpec := { name := "fnExactIsSafeTrack", fn := fun _ => fun
  | [d1, d2] => { results := [.lit (.bool false)], args := [d1, d2] }
  | _ => none }
def FnExactIsSafeTrackWrongFalsely : Prop := fnExactIsSafeTrackRow.holds Try.pinned (OpenSpec.ofChange fnExactIsSafeTrackWrong)

/-- 'laws.FnExactLeastApart': WHATEVER THE INPUT: true; the input reads as it did. -/
def fnExactLeastApartSpec : ChangeSpec := { name := "fnExactLeastApart", fn := fun _ => fun
  | [d] => { results := [.lit (.bool true)], args := [d] }
  | _ => none }
def fnExactLeastApartRow : OpenClaim := { program := "ytnljdgmnmafopaa", sum := "c3d399f78289a24440d39f764bd472667d00b27317626080dae80ba925ff57ad", func := "loop.example/g01057/laws.FnExactLeastApart", spec := "fnExactLeastApart", apart := false }
def FnExactLeastApartSaid : Prop := fnExactLeastApartRow.holds Try.pinned (OpenSpec.ofChange fnExactLeastApartSpec)

/-- ITS FALSE NEIGHBOUR: 'it returns false'. Refute it at one input. -/
def fnExactLeastApartWrong : ChangeSpec := { name := "fnExactLeastApart", fn := fun _ => fun
  | [d] => { results := [.lit (.bool false)], args := [d] }
  | _ => none }
def FnExactLeastApartWrongFalsely : Prop := fnExactLeastApartRow.holds Try.pinned (OpenSpec.ofChange fnExactLeastApartWrong)

/-- 'laws.FnExactCutTrack': WHATEVER THE INPUT: true; the input reads as it did. -/
def fnExactCutTrackSpec : ChangeSpec := { name := "fnExactCutTrack", fn := fun _ => fun
  | [d1, d2] => { results := [.lit (.bool true)], args := [d1, d2] }
  | _ => none }
def fnExactCutTrackRow : OpenClaim := { program := "ytnljdgmnmafopaa", sum := "c3d399f78289a24440d39f764bd472667d00b27317626080dae80ba925ff57ad", func := "loop.example/g01057/laws.FnExactCutTrack", spec := "fnExactCutTrack", apart := false }
def FnExactCutTrackSaid : Prop := fnExactCutTrackRow.holds Try.pinned (OpenSpec.ofChange fnExactCutTrackSpec)

/-- ITS FALSE NEIGHBOUR: 'it returns false'. Refute it at one input. -/
def fnExactCutTrackWrong : ChangeSpec := { name := "fnExactCutTrack", fn := fun _ => fun
  | [d1, d2] => { results := [.lit (.bool false)], args := [d1, d2] }
  | _ => none }
def FnExactCutTrackWrongFalsely : Prop := fnExactCutTrackRow.holds Try.pinned (OpenSpec.ofChange fnExactCutTrackWrong)

/- THE SECOND FORM. 'bulk': how many values and letters a reading holds, each counted each time it is reached (what is shared counts as often as it is met; a slice's spare places count too). A statement '..UptoSaid' is the law's where the arguments, and the package variables that the reading takes, are together of bulk at most 1048576: NARROWER than '..Said'. Prove '..Said' where nothing that the law and all that it calls make is longer than what came in: it says more and counts as full. Else prove '..UptoSaid'. A law counts once. -/
mutual
def uptoBulk {H : Type} : DataW H → Nat
  | .lit (.string bytes) => bytes.length + 1
  | .lit _ => 1
  | .nil => 1
  | .ptr d => uptoBulk d + 1
  | .slice elems spare => uptoBulkAll elems + uptoBulkAll spare + 1
  | .agg parts => uptoBulkAll parts + 1
  | .iface _ d => uptoBulk d + 1
  | .map entries => uptoBulkEntries entries + 1
  | .held _ => 1
def uptoBulkAll {H : Type} : List (DataW H) → Nat
  | [] => 0
  | d :: r => uptoBulk d + uptoBulkAll r
def uptoBulkEntries {H : Type} : List (Lit × DataW H) → Nat
  | [] => 0
  | x :: r => uptoBulkEntry x + uptoBulkEntries r
def uptoBulkEntry {H : Type} : Lit × DataW H → Nat
  | (.string bytes, d) => bytes.length + uptoBulk d + 1
  | (_, d) => uptoBulk d + 1
 end
def uptoSmall : (H : Type) → List (DataW H) → Bool := fun _ ds => decide (uptoBulkAll ds ≤ 1048576)
def OpenSpec.upto (s : _root_.Go.ChangeSpec) : _root_.Go.OpenSpec := { _root_.Go.OpenSpec.ofChange s with cond := some uptoSmall }

/-- 'laws.FnExactLoopPlaces', WHERE WHAT IT READS IS OF BULK AT MOST 1048576: true; the input reads as it did. -/
def fnExactLoopPlacesUptoRow : OpenClaim := { program := "ytnljdgmnmafopaa", sum := "c3d399f78289a24440d39f764bd472667d00b27317626080dae80ba925ff57ad", func := "loop.example/g01057/laws.FnExactLoopPlaces", spec := "fnExactLoopPlaces", apart := false, narrowed := true }
def FnExactLoopPlacesUptoSaid : Prop := fnExactLoopPlacesUptoRow.holds Try.pinned (OpenSpec.upto fnExactLoopPlacesSpec)

/-- 'laws.FnExactBothInLoop', WHERE WHAT IT READS IS OF BULK AT MOST 1048576: true; the input reads as it did. -/
def fnExactBothInLoopUptoRow : OpenClaim := { program := "ytnljdgmnmafopaa", sum := "c3d399f78289a24440d39f764bd472667d00b27317626080dae80ba925ff57ad", func := "loop.example/g01057/laws.FnExactBothInLoop", spec := "fnExactBothInLoop", apart := false, narrowed := true }
def FnExactBothInLoopUptoSaid : Prop := fnExactBothInLoopUptoRow.holds Try.pinned (OpenSpec.upto fnExactBothInLoopSpec)

/-- 'laws.FnExactCarsApart', WHERE WHAT IT READS IS OF BULK AT MOST 1048576: true; the input reads as it did. -/
def fnExactCarsApartUptoRow : OpenClaim := { program := "ytnljdgmnmafopaa", sum := "c3d399f78289a24440d39f764bd472667d00b27317626080dae80ba925ff57ad", func := "loop.example/g01057/laws.FnExactCarsApart", spec := "fnExactCarsApart", apart := false, narrowed := true }
def FnExactCarsApartUptoSaid : Prop := fnExactCarsApartUptoRow.holds Try.pinned (OpenSpec.upto fnExactCarsApartSpec)

/-- 'laws.FnExactHeightBetween', WHERE WHAT IT READS IS OF BULK AT MOST 1048576: true; the input reads as it did. -/
def fnExactHeightBetweenUptoRow : OpenClaim := { program := "ytnljdgmnmafopaa", sum := "c3d399f78289a24440d39f764bd472667d00b27317626080dae80ba925ff57ad", func := "loop.example/g01057/laws.FnExactHeightBetween", spec := "fnExactHeightBetween", apart := false, narrowed := true }
def FnExactHeightBetweenUptoSaid : Prop := fnExactHeightBetweenUptoRow.holds Try.pinned (OpenSpec.upto fnExactHeightBetweenSpec)

/-- 'laws.FnExactEqualHeight', WHERE WHAT IT READS IS OF BULK AT MOST 1048576: true; the input reads as it did. -/
def fnExactEqualHeightUptoRow : OpenClaim := { program := "ytnljdgmnmafopaa", sum := "c3d399f78289a24440d39f764bd472667d00b27317626080dae80ba925ff57ad", func := "loop.example/g01057/laws.FnExactEqualHeight", spec := "fnExactEqualHeight", unfollowed := true, recurses := true, apart := false, narrowed := true }
def FnExactEqualHeightUptoSaid : Prop := fnExactEqualHeightUptoRow.holds Try.pinned (OpenSpec.upto fnExactEqualHeightSpec)

/-- 'laws.FnExactJoinSections', WHERE WHAT IT READS IS OF BULK AT MOST 1048576: true; the input reads as it did. -/
def fnExactJoinSectionsUptoRow : OpenClaim := { program := "ytnljdgmnmafopaa", sum := "c3d399f78289a24440d39f764bd472667d00b27317626080dae80ba925ff57ad", func := "loop.example/g01057/laws.FnExactJoinSections", spec := "fnExactJoinSections", apart := false, narrowed := true }
def FnExactJoinSectionsUptoSaid : Prop := fnExactJoinSectionsUptoRow.holds Try.pinned (OpenSpec.upto fnExactJoinSectionsSpec)

/-- 'laws.FnExactTurnTrack', WHERE WHAT IT READS IS OF BULK AT MOST 1048576: true; the input reads as it did. -/
def fnExactTurnTrackUptoRow : OpenClaim := { program := "ytnljdgmnmafopaa", sum := "c3d399f78289a24440d39f764bd472667d00b27317626080dae80ba925ff57ad", func := "loop.example/g01057/laws.FnExactTurnTrack", spec := "fnExactTurnTrack", apart := false, narrowed := true }
def FnExactTurnTrackUptoSaid : Prop := fnExactTurnTrackUptoRow.holds Try.pinned (OpenSpec.upto fnExactTurnTrackSpec)

/-- 'laws.FnExactIsSafeTrack', WHERE WHAT IT READS IS OF BULK AT MOST 1048576: true; the input reads as it did. -/
def fnExactIsSafeTrackUptoRow : OpenClaim := { program := "ytnljdgmnmafopaa", sum := "c3d399f78289a24440d39f764bd472667d00b27317626080dae80ba925ff57ad", func := "loop.example/g01057/laws.FnExactIsSafeTrack", spec := "fnExactIsSafeTrack", apart := false, narrowed := true }
def FnExactIsSafeTrackUptoSaid : Prop := fnExactIsSafeTrackUptoRow.holds Try.pinned (OpenSpec.upto fnExactIsSafeTrackSpec)

/-- 'laws.FnExactLeastApart', WHERE WHAT IT READS IS OF BULK AT MOST 1048576: true; the input reads as it did. -/
def fnExactLeastApartUptoRow : OpenClaim := { program := "ytnljdgmnmafopaa", sum := "c3d399f78289a24440d39f764bd472667d00b27317626080dae80ba925ff57ad", func := "loop.example/g01057/laws.FnExactLeastApart", spec := "fnExactLeastApart", apart := false, narrowed := true }
def FnExactLeastApartUptoSaid : Prop := fnExactLeastApartUptoRow.holds Try.pinned (OpenSpec.upto fnExactLeastApartSpec)

/-- 'laws.FnExactCutTrack', WHERE WHAT IT READS IS OF BULK AT MOST 1048576: true; the input reads as it did. -/
def fnExactCutTrackUptoRow : OpenClaim := { program := "ytnljdgmnmafopaa", sum := "c3d399f78289a24440d39f764bd472667d00b27317626080dae80ba925ff57ad", func := "loop.example/g01057/laws.FnExactCutTrack", spec := "fnExactCutTrack", apart := false, narrowed := true }
def FnExactCutTrackUptoSaid : Prop := fnExactCutTrackUptoRow.holds Try.pinned (OpenSpec.upto fnExactCutTrackSpec)

end Rows
end Go.Proofs.Ytnljdgmnmafopaa

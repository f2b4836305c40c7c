/-
  No cell of these rows narrows 'for every input' (looked for: loops, veiled, ifaces, maps, wideKeys, modest, calm, conditions, laid).
  DERIVED. THE GIVEN ROWS OF THIS SEAT. 9 by the template 'for every input the law returns true; each argument reads behind the call as it read before'; 0 by the template 'total and deterministic' (their statements: YthkocoljadopkaaTotals.lean).
  GIVEN WITH THE SEED: the statements are not yours to turn. If you find one false, say at which input.
  Laid BY PROGRAM, IN A SANDBOX (cutbox-rows.mjs): the forced cells as the released guide's own fill.sh prints them over the translation 73963187c5b90c13… (all of the seat's roots in one cut). By AI agents, Wed Nov 11 2026. No macro, syntax, notation, axiom, sorry.
-/
import Derived.Test.YthkocoljadopkaaChecked
import GoSem.Claim
import GoSem.ClaimJoined
import GoSem.ClaimMapViews
import Derived.JoinedTies
import Derived.KernelRfl
namespace Go.Proofs.Ythkocoljadopkaa
/- THE CELL 'sum', in the pinned program and in every row, IS THE sha256 OF THE DUMP (.gsa) THAT YthkocoljadopkaaProg.lean LOADS. Nothing in Lean hashes anything: it is a label: what it is worth is what the hold of that sum in a sandbox is worth. -/
noncomputable def Try.pinned : Pinned := { name := "ythkocoljadopkaa", sum := "73963187c5b90c13cb9d3952a45cc1515f88de6c9a73c9c9c2cf985de788fc7a", checked := Try.checked }
namespace Rows
def none {H : Type} : Left H := { results := [], args := [] }

/-- 'laws.FnExactRailWear': WHATEVER THE INPUT: true; the input reads as it did. -/
def fnExactRailWearSpec : ChangeSpec := { name := "fnExactRailWear", fn := fun _ => fun
  | [d1, d2, d3] => { results := [.lit (.bool true)], args := [d1, d2, d3] }
  | _ => none }
def fnExactRailWearRow : OpenClaim := { program := "ythkocoljadopkaa", sum := "73963187c5b90c13cb9d3952a45cc1515f88de6c9a73c9c9c2cf985de788fc7a", func := "loop.example/g01057/laws.FnExactRailWear", spec := "fnExactRailWear", apart := false }
def FnExactRailWearSaid : Prop := fnExactRailWearRow.holds Try.pinned (OpenSpec.ofChange fnExactRailWearSpec)

/-- ITS FALSE NEIGHBOUR: 'it returns false'. Refute it at one input. -/
def fnExactRailWearWrong : ChangeSpec := { name := "fnExactRailWear", fn := fun _ => fun
  | [d1, d2, d3] => { results := [.lit (.bool false)], args := [d1, d2, d3] }
  | _ => none }
def FnExactRailWearWrongFalsely : Prop := fnExactRailWearRow.holds Try.pinned (OpenSpec.ofChange fnExactRailWearWrong)

/-- 'laws.FnExactSideOf': WHATEVER THE INPUT: true; the input reads as it did. -/
def fnExactSideOfSpec : ChangeSpec := { name := "fnExactSideOf", fn := fun _ => fun
  | [d1, d2] => { results := [.lit (.bool true)], args := [d1, d2] }
  | _ => none }
def fnExactSideOfRow : OpenClaim := { program := "ythkocoljadopkaa", sum := "73963187c5b90c13cb9d3952a45cc1515f88de6c9a73c9c9c2cf985de788fc7a", func := "loop.example/g01057/laws.FnExactSideOf", spec := "fnExactSideOf", apart := false }
def FnExactSideOfSaid : Prop := fnExactSideOfRow.holds Try.pinned (OpenSpec.ofChange fnExactSideOfSpec)

/-- ITS FALSE NEIGHBOUR: 'it returns false'. Refute it at one input. -/
def fnExactSideOfWrong : ChangeSpec := { name := "fnExactSideOf", fn := fun _ => fun
  | [d1, d2] => { results := [.lit (.bool false)], args := [d1, d2] }
  | _ => none }
def FnExactSideOfWrongFalsely : Prop := fnExactSideOfRow.holds Try.pinned (OpenSpec.ofChange fnExactSideOfWrong)

/-- 'laws.FnExactValidBends': WHATEVER THE INPUT: true; the input reads as it did. -/
def fnExactValidBendsSpec : ChangeSpec := { name := "fnExactValidBends", fn := fun _ => fun
  | [d] => { results := [.lit (.bool true)], args := [d] }
  | _ => none }
def fnExactValidBendsRow : OpenClaim := { program := "ythkocoljadopkaa", sum := "73963187c5b90c13cb9d3952a45cc1515f88de6c9a73c9c9c2cf985de788fc7a", func := "loop.example/g01057/laws.FnExactValidBends", spec := "fnExactValidBends", apart := false }
def FnExactValidBendsSaid : Prop := fnExactValidBendsRow.holds Try.pinned (OpenSpec.ofChange fnExactValidBendsSpec)

/-- ITS FALSE NEIGHBOUR: 'it returns false'. Refute it at one input. -/
def fnExactValidBendsWrong : ChangeSpec := { name := "fnExactValidBends", fn := fun _ => fun
  | [d] => { results := [.lit (.bool false)], args := [d] }
  | _ => none }
def FnExactValidBendsWrongFalsely : Prop := fnExactValidBendsRow.holds Try.pinned (OpenSpec.ofChange fnExactValidBendsWrong)

/-- 'laws.FnExactCantFor': WHATEVER THE INPUT: true; the input reads as it did. -/
def fnExactCantForSpec : ChangeSpec := { name := "fnExactCantFor", fn := fun _ => fun
  | [d1, d2, d3] => { results := [.lit (.bool true)], args := [d1, d2, d3] }
  | _ => none }
def fnExactCantForRow : OpenClaim := { program := "ythkocoljadopkaa", sum := "73963187c5b90c13cb9d3952a45cc1515f88de6c9a73c9c9c2cf985de788fc7a", func := "loop.example/g01057/laws.FnExactCantFor", spec := "fnExactCantFor", apart := false }
def FnExactCantForSaid : Prop := fnExactCantForRow.holds Try.pinned (OpenSpec.ofChange fnExactCantForSpec)

/-- ITS FALSE NEIGHBOUR: 'it returns false'. Refute it at one input. -/
def fnExactCantForWrong : ChangeSpec := { name := "fnExactCantFor", fn := fun _ => fun
  | [d1, d2, d3] => { results := [.lit (.bool false)], args := [d1, d2, d3] }
  | _ => none }
def FnExactCantForWrongFalsely : Prop := fnExactCantForRow.holds Try.pinned (OpenSpec.ofChange fnExactCantForWrong)

/-- 'laws.FnExactRidesToGrind': WHATEVER THE INPUT: true; the input reads as it did. -/
def fnExactRidesToGrindSpec : ChangeSpec := { name := "fnExactRidesToGrind", fn := fun _ => fun
  | [d1, d2, d3] => { results := [.lit (.bool true)], args := [d1, d2, d3] }
  | _ => none }
def fnExactRidesToGrindRow : OpenClaim := { program := "ythkocoljadopkaa", sum := "73963187c5b90c13cb9d3952a45cc1515f88de6c9a73c9c9c2cf985de788fc7a", func := "loop.example/g01057/laws.FnExactRidesToGrind", spec := "fnExactRidesToGrind", unfollowed := true, recurses := true, apart := false }
def FnExactRidesToGrindSaid : Prop := fnExactRidesToGrindRow.holds Try.pinned (OpenSpec.ofChange fnExactRidesToGrindSpec)

/-- ITS FALSE NEIGHBOUR: 'it returns false'. Refute it at one input. -/
def fnExactRidesToGrindWrong : ChangeSpec := { name := "fnExactRidesToGrind", fn := fun _ => fun
  | [d1, d2, d3] => { results := [.lit (.bool false)], args := [d1, d2, d3] }
  | _ => none }
def FnExactRidesToGrindWrongFalsely : Prop := fnExactRidesToGrindRow.holds Try.pinned (OpenSpec.ofChange fnExactRidesToGrindWrong)

/-- 'laws.FnExactEvenSpeed': WHATEVER THE INPUT: true; the input reads as it did. -/
def fnExactEvenSpeedSpec : ChangeSpec := { name := "fnExactEvenSpeed", fn := fun _ => fun
  | [d] => { results := [.lit (.bool true)], args := [d] }
  | _ => none }
def fnExactEvenSpeedRow : OpenClaim := { program := "ythkocoljadopkaa", sum := "73963187c5b90c13cb9d3952a45cc1515f88de6c9a73c9c9c2cf985de788fc7a", func := "loop.example/g01057/laws.FnExactEvenSpeed", spec := "fnExactEvenSpeed", unfollowed := true, recurses := true, apart := false }
def FnExactEvenSpeedSaid : Prop := fnExactEvenSpeedRow.holds Try.pinned (OpenSpec.ofChange fnExactEvenSpeedSpec)

/-- ITS FALSE NEIGHBOUR: 'it returns false'. Refute it at one input. -/
def fnExactEvenSpeedWrong : ChangeSpec := { name := "fnExactEvenSpeed", fn := fun _ => fun
  | [d] => { results := [.lit (.bool false)], args := [d] }
  | _ => none }
def FnExactEvenSpeedWrongFalsely : Prop := fnExactEvenSpeedRow.holds Try.pinned (OpenSpec.ofChange fnExactEvenSpeedWrong)

/-- 'laws.FnExactSpeedIn': WHATEVER THE INPUT: true; the input reads as it did. -/
def fnExactSpeedInSpec : ChangeSpec := { name := "fnExactSpeedIn", fn := fun _ => fun
  | [d1, d2] => { results := [.lit (.bool true)], args := [d1, d2] }
  | _ => none }
def fnExactSpeedInRow : OpenClaim := { program := "ythkocoljadopkaa", sum := "73963187c5b90c13cb9d3952a45cc1515f88de6c9a73c9c9c2cf985de788fc7a", func := "loop.example/g01057/laws.FnExactSpeedIn", spec := "fnExactSpeedIn", unfollowed := true, recurses := true, apart := false }
def FnExactSpeedInSaid : Prop := fnExactSpeedInRow.holds Try.pinned (OpenSpec.ofChange fnExactSpeedInSpec)

/-- ITS FALSE NEIGHBOUR: 'it returns false'. Refute it at one input. -/
def fnExactSpeedInWrong : ChangeSpec := { name := "fnExactSpeedIn", fn := fun _ => fun
  | [d1, d2] => { results := [.lit (.bool false)], args := [d1, d2] }
  | _ => none }
def FnExactSpeedInWrongFalsely : Prop := fnExactSpeedInRow.holds Try.pinned (OpenSpec.ofChange fnExactSpeedInWrong)

/-- 'laws.FnExactBendSeconds': WHATEVER THE INPUT: true; the input reads as it did. -/
def fnExactBendSecondsSpec : ChangeSpec := { name := "fnExactBendSeconds", fn := fun _ => fun
  | [d1, d2] => { results := [.lit (.bool true)], args := [d1, d2] }
  | _ => none }
def fnExactBendSecondsRow : OpenClaim := { program := "ythkocoljadopkaa", sum := "73963187c5b90c13cb9d3952a45cc1515f88de6c9a73c9c9c2cf985de788fc7a", func := "loop.example/g01057/laws.FnExactBendSeconds", spec := "fnExactBendSeconds", unfollowed := true, recurses := true, apart := false }
def FnExactBendSecondsSaid : Prop := fnExactBendSecondsRow.holds Try.pinned (OpenSpec.ofChange fnExactBendSecondsSpec)

/-- ITS FALSE NEIGHBOUR: 'it returns false'. Refute it at one input. -/
def fnExactBendSecondsWrong : ChangeSpec := { name := "fnExactBendSeconds", fn := fun _ => fun
  | [d1, d2] => { results := [.lit (.bool false)], args := [d1, d2] }
  | _ => none }
def FnExactBendSecondsWrongFalsely : Prop := fnExactBendSecondsRow.holds Try.pinned (OpenSpec.ofChange fnExactBendSecondsWrong)

/-- 'laws.FnExactSlowestBend': WHATEVER THE INPUT: true; the input reads as it did. -/
def fnExactSlowestBendSpec : ChangeSpec := { name := "fnExactSlowestBend", fn := fun _ => fun
  | [d1, d2] => { results := [.lit (.bool true)], args := [d1, d2] }
  | _ => none }
def fnExactSlowestBendRow : OpenClaim := { program := "ythkocoljadopkaa", sum := "73963187c5b90c13cb9d3952a45cc1515f88de6c9a73c9c9c2cf985de788fc7a", func := "loop.example/g01057/laws.FnExactSlowestBend", spec := "fnExactSlowestBend", unfollowed := true, recurses := true, apart := false }
def FnExactSlowestBendSaid : Prop := fnExactSlowestBendRow.holds Try.pinned (OpenSpec.ofChange fnExactSlowestBendSpec)

/-- ITS FALSE NEIGHBOUR: 'it returns false'. Refute it at one input. -/
def fnExactSlowestBendWrong : ChangeSpec := { name := "fnExactSlowestBend", fn := fun _ => fun
  | [d1, d2] => { results := [.lit (.bool false)], args := [d1, d2] }
  | _ => none }
def FnExactSlowestBendWrongFalsely : Prop := fnExactSlowestBendRow.holds Try.pinned (OpenSpec.ofChange fnExactSlowestBendWrong)

/- THE SECOND FORM. 'bulk': how many values and letters a reading holds, each counted each time it is reached (what is shared counts as often as it is met; a slice's spare places count too). A statement '..UptoSaid' is the law's where the arguments, and the package variables that the reading takes, are together of bulk at most 1048576: NARROWER than '..Said'. Prove '..Said' where nothing that the law and all that it calls make is longer than what came in: it says more and counts as full. Else prove '..UptoSaid'. A law counts once. -/
mutual
def uptoBulk {H : Type} : DataW H → Nat
  | .lit (.string bytes) => bytes.length + 1
  | .lit _ => 1
  | .nil => 1
  | .ptr d => uptoBulk d + 1
  | .slice elems spare => uptoBulkAll elems + uptoBulkAll spare + 1
  | .agg parts => uptoBulkAll parts + 1
  | .iface _ d => uptoBulk d + 1
  | .map entries => uptoBulkEntries entries + 1
  | .held _ => 1
def uptoBulkAll {H : Type} : List (DataW H) → Nat
  | [] => 0
  | d :: r => uptoBulk d + uptoBulkAll r
def uptoBulkEntries {H : Type} : List (Lit × DataW H) → Nat
  | [] => 0
  | x :: r => uptoBulkEntry x + uptoBulkEntries r
def uptoBulkEntry {H : Type} : Lit × DataW H → Nat
  | (.string bytes, d) => bytes.length + uptoBulk d + 1
  | (_, d) => uptoBulk d + 1
 end
def uptoSmall : (H : Type) → List (DataW H) → Bool := fun _ ds => decide (uptoBulkAll ds ≤ 1048576)
def OpenSpec.upto (s : _root_.Go.ChangeSpec) : _root_.Go.OpenSpec := { _root_.Go.OpenSpec.ofChange s with cond := some uptoSmall }

/-- 'laws.FnExactRailWear', WHERE WHAT IT READS IS OF BULK AT MOST 1048576: true; the input reads as it did. -/
def fnExactRailWearUptoRow : OpenClaim := { program := "ythkocoljadopkaa", sum := "73963187c5b90c13cb9d3952a45cc1515f88de6c9a73c9c9c2cf985de788fc7a", func := "loop.example/g01057/laws.FnExactRailWear", spec := "fnExactRailWear", apart := false, narrowed := true }
def FnExactRailWearUptoSaid : Prop := fnExactRailWearUptoRow.holds Try.pinned (OpenSpec.upto fnExactRailWearSpec)

/-- 'laws.FnExactSideOf', WHERE WHAT IT READS IS OF BULK AT MOST 1048576: true; the input reads as it did. -/
def fnExactSideOfUptoRow : OpenClaim := { program := "ythkocoljadopkaa", sum := "73963187c5b90c13cb9d3952a45cc1515f88de6c9a73c9c9c2cf985de788fc7a", func := "loop.example/g01057/laws.FnExactSideOf", spec := "fnExactSideOf", apart := false, narrowed := true }
def FnExactSideOfUptoSaid : Prop := fnExactSideOfUptoRow.holds Try.pinned (OpenSpec.upto fnExactSideOfSpec)

/-- 'laws.FnExactValidBends', WHERE WHAT IT READS IS OF BULK AT MOST 1048576: true; the input reads as it did. -/
def fnExactValidBendsUptoRow : OpenClaim := { program := "ythkocoljadopkaa", sum := "73963187c5b90c13cb9d3952a45cc1515f88de6c9a73c9c9c2cf985de788fc7a", func := "loop.example/g01057/laws.FnExactValidBends", spec := "fnExactValidBends", apart := false, narrowed := true }
def FnExactValidBendsUptoSaid : Prop := fnExactValidBendsUptoRow.holds Try.pinned (OpenSpec.upto fnExactValidBendsSpec)

/-- 'laws.FnExactCantFor', WHERE WHAT IT READS IS OF BULK AT MOST 1048576: true; the input reads as it did. -/
def fnExactCantForUptoRow : OpenClaim := { program := "ythkocoljadopkaa", sum := "73963187c5b90c13cb9d3952a45cc1515f88de6c9a73c9c9c2cf985de788fc7a", func := "loop.example/g01057/laws.FnExactCantFor", spec := "fnExactCantFor", apart := false, narrowed := true }
def FnExactCantForUptoSaid : Prop := fnExactCantForUptoRow.holds Try.pinned (OpenSpec.upto fnExactCantForSpec)

/-- 'laws.FnExactRidesToGrind', WHERE WHAT IT READS IS OF BULK AT MOST 1048576: true; the input reads as it did. -/
def fnExactRidesToGrindUptoRow : OpenClaim := { program := "ythkocoljadopkaa", sum := "73963187c5b90c13cb9d3952a45cc1515f88de6c9a73c9c9c2cf985de788fc7a", func := "loop.example/g01057/laws.FnExactRidesToGrind", spec := "fnExactRidesToGrind", unfollowed := true, recurses := true, apart := false, narrowed := true }
def FnExactRidesToGrindUptoSaid : Prop := fnExactRidesToGrindUptoRow.holds Try.pinned (OpenSpec.upto fnExactRidesToGrindSpec)

/-- 'laws.FnExactEvenSpeed', WHERE WHAT IT READS IS OF BULK AT MOST 1048576: true; the input reads as it did. -/
def fnExactEvenSpeedUptoRow : OpenClaim := { program := "ythkocoljadopkaa", sum := "73963187c5b90c13cb9d3952a45cc1515f88de6c9a73c9c9c2cf985de788fc7a", func := "loop.example/g01057/laws.FnExactEvenSpeed", spec := "fnExactEvenSpeed", unfollowed := true, recurses := true, apart := false, narrowed := true }
def FnExactEvenSpeedUptoSaid : Prop := fnExactEvenSpeedUptoRow.holds Try.pinned (OpenSpec.upto fnExactEvenSpeedSpec)

/-- 'laws.FnExactSpeedIn', WHERE WHAT IT READS IS OF BULK AT MOST 1048576: true; the input reads as it did. -/
def fnExactSpeedInUptoRow : OpenClaim := { program := "ythkocoljadopkaa", sum := "73963187c5b90c13cb9d3952a45cc1515f88de6c9a73c9c9c2cf985de788fc7a", func := "loop.example/g01057/laws.FnExactSpeedIn", spec := "fnExactSpeedIn", unfollowed := true, recurses := true, apart := false, narrowed := true }
def FnExactSpeedInUptoSaid : Prop := fnExactSpeedInUptoRow.holds Try.pinned (OpenSpec.upto fnExactSpeedInSpec)

/-- 'laws.FnExactBendSeconds', WHERE WHAT IT READS IS OF BULK AT MOST 1048576: true; the input reads as it did. -/
def fnExactBendSecondsUptoRow : OpenClaim := { program := "ythkocoljadopkaa", sum := "73963187c5b90c13cb9d3952a45cc1515f88de6c9a73c9c9c2cf985de788fc7a", func := "loop.example/g01057/laws.FnExactBendSeconds", spec := "fnExactBendSeconds", unfollowed := true, recurses := true, apart := false, narrowed := true }
def FnExactBendSecondsUptoSaid : Prop := fnExactBendSecondsUptoRow.holds Try.pinned (OpenSpec.upto fnExactBendSecondsSpec)

/-- 'laws.FnExactSlowestBend', WHERE WHAT IT READS IS OF BULK AT MOST 1048576: true; the input reads as it did. -/
def fnExactSlowestBendUptoRow : OpenClaim := { program := "ythkocoljadopkaa", sum := "73963187c5b90c13cb9d3952a45cc1515f88de6c9a73c9c9c2cf985de788fc7a", func := "loop.example/g01057/laws.FnExactSlowestBend", spec := "fnExactSlowestBend", unfollowed := true, recurses := true, apart := false, narrowed := true }
def FnExactSlowestBendUptoSaid : Prop := fnExactSlowestBendUptoRow.holds Try.pinned (OpenSpec.upto fnExactSlowestBendSpec)

end Rows
end Go.Proofs.Ythkocoljadopkaa

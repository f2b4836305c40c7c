/-
  No cell of these rows narrows 'for every input' (looked for: loops, veiled, ifaces, maps, wideKeys, modest, calm, conditions, laid).
  DERIVED. THE GIVEN ROWS OF THIS SEAT. 10 by the template 'for every input the law returns true; each argument reads behind the call as it read before'; 0 by the template 'total and deterministic' (their statements: YthdebcdbghgfaaaTotals.lean).
  GIVEN WITH THE SEED: the statements are not yours to turn. If you find one false, say at which input.
  Laid BY PROGRAM, IN A SANDBOX (cutbox-rows.mjs): the forced cells as the released guide's own fill.sh prints them over the translation 50b0dc4d83b89143… (all of the seat's roots in one cut). By AI agents, Wed Nov 11 2026. No macro, syntax, notation, axiom, sorry.
-/
import Derived.Test.YthdebcdbghgfaaaChecked
import GoSem.Claim
import GoSem.ClaimJoined
import GoSem.ClaimMapViews
import Derived.JoinedTies
import Derived.KernelRfl
namespace Go.Proofs.Ythdebcdbghgfaaa
/- THE CELL 'sum', in the pinned program and in every row, IS THE sha256 OF THE DUMP (.gsa) THAT YthdebcdbghgfaaaProg.lean LOADS. Nothing in Lean hashes anything: it is a label: what it is worth is what the hold of that sum in a sandbox is worth. -/
noncomputable def Try.pinned : Pinned := { name := "ythdebcdbghgfaaa", sum := "50b0dc4d83b891436d1bfd1047f59bb2c55aee020c6e9ab63d1bc78a72ba44bb", checked := Try.checked }
namespace Rows
def none {H : Type} : Left H := { results := [], args := [] }

/-- 'laws.FnExactValidTrack': WHATEVER THE INPUT: true; the input reads as it did. -/
def fnExactValidTrackSpec : ChangeSpec := { name := "fnExactValidTrack", fn := fun _ => fun
  | [d] => { results := [.lit (.bool true)], args := [d] }
  | _ => none }
def fnExactValidTrackRow : OpenClaim := { program := "ythdebcdbghgfaaa", sum := "50b0dc4d83b891436d1bfd1047f59bb2c55aee020c6e9ab63d1bc78a72ba44bb", func := "loop.example/g01057/laws.FnExactValidTrack", spec := "fnExactValidTrack", apart := false }
def FnExactValidTrackSaid : Prop := fnExactValidTrackRow.holds Try.pinned (OpenSpec.ofChange fnExactValidTrackSpec)

/-- ITS FALSE NEIGHBOUR: 'it returns false'. Refute it at one input. -/
def fnExactValidTrackWrong : ChangeSpec := { name := "fnExactValidTrack", fn := fun _ => fun
  | [d] => { results := [.lit (.bool false)], args := [d] }
  | _ => none }
def FnExactValidTrackWrongFalsely : Prop := fnExactValidTrackRow.holds Try.pinned (OpenSpec.ofChange fnExactValidTrackWrong)

/-- 'laws.FnExactIsCentred': WHATEVER THE INPUT: true; the input reads as it did. -/
def fnExactIsCentredSpec : ChangeSpec := { name := "fnExactIsCentred", fn := fun _ => fun
  | [d] => { results := [.lit (.bool true)], args := [d] }
  | _ => none }
def fnExactIsCentredRow : OpenClaim := { program := "ythdebcdbghgfaaa", sum := "50b0dc4d83b891436d1bfd1047f59bb2c55aee020c6e9ab63d1bc78a72ba44bb", func := "loop.example/g01057/laws.FnExactIsCentred", spec := "fnExactIsCentred", apart := false }
def FnExactIsCentredSaid : Prop := fnExactIsCentredRow.holds Try.pinned (OpenSpec.ofChange fnExactIsCentredSpec)

/-- ITS FALSE NEIGHBOUR: 'it returns false'. Refute it at one input. -/
def fnExactIsCentredWrong : ChangeSpec := { name := "fnExactIsCentred", fn := fun _ => fun
  | [d] => { results := [.lit (.bool false)], args := [d] }
  | _ => none }
def FnExactIsCentredWrongFalsely : Prop := fnExactIsCentredRow.holds Try.pinned (OpenSpec.ofChange fnExactIsCentredWrong)

/-- 'laws.FnExactTrackLength': WHATEVER THE INPUT: true; the input reads as it did. -/
def fnExactTrackLengthSpec : ChangeSpec := { name := "fnExactTrackLength", fn := fun _ => fun
  | [d] => { results := [.lit (.bool true)], args := [d] }
  | _ => none }
def fnExactTrackLengthRow : OpenClaim := { program := "ythdebcdbghgfaaa", sum := "50b0dc4d83b891436d1bfd1047f59bb2c55aee020c6e9ab63d1bc78a72ba44bb", func := "loop.example/g01057/laws.FnExactTrackLength", spec := "fnExactTrackLength", apart := false }
def FnExactTrackLengthSaid : Prop := fnExactTrackLengthRow.holds Try.pinned (OpenSpec.ofChange fnExactTrackLengthSpec)

/-- ITS FALSE NEIGHBOUR: 'it returns false'. Refute it at one input. -/
def fnExactTrackLengthWrong : ChangeSpec := { name := "fnExactTrackLength", fn := fun _ => fun
  | [d] => { results := [.lit (.bool false)], args := [d] }
  | _ => none }
def FnExactTrackLengthWrongFalsely : Prop := fnExactTrackLengthRow.holds Try.pinned (OpenSpec.ofChange fnExactTrackLengthWrong)

/-- 'laws.FnExactMeetingHalves': WHATEVER THE INPUT: true; the input reads as it did. -/
def fnExactMeetingHalvesSpec : ChangeSpec := { name := "fnExactMeetingHalves", fn := fun _ => fun
  | [d] => { results := [.lit (.bool true)], args := [d] }
  | _ => none }
def fnExactMeetingHalvesRow : OpenClaim := { program := "ythdebcdbghgfaaa", sum := "50b0dc4d83b891436d1bfd1047f59bb2c55aee020c6e9ab63d1bc78a72ba44bb", func := "loop.example/g01057/laws.FnExactMeetingHalves", spec := "fnExactMeetingHalves", apart := false }
def FnExactMeetingHalvesSaid : Prop := fnExactMeetingHalvesRow.holds Try.pinned (OpenSpec.ofChange fnExactMeetingHalvesSpec)

/-- ITS FALSE NEIGHBOUR: 'it returns false'. Refute it at one input. -/
def fnExactMeetingHalvesWrong : ChangeSpec := { name := "fnExactMeetingHalves", fn := fun _ => fun
  | [d] => { results := [.lit (.bool false)], args := [d] }
  | _ => none }
def FnExactMeetingHalvesWrongFalsely : Prop := fnExactMeetingHalvesRow.holds Try.pinned (OpenSpec.ofChange fnExactMeetingHalvesWrong)

/-- 'laws.FnExactSteepestOf': WHATEVER THE INPUT: true; the input reads as it did. -/
def fnExactSteepestOfSpec : ChangeSpec := { name := "fnExactSteepestOf", fn := fun _ => fun
  | [d] => { results := [.lit (.bool true)], args := [d] }
  | _ => none }
def fnExactSteepestOfRow : OpenClaim := { program := "ythdebcdbghgfaaa", sum := "50b0dc4d83b891436d1bfd1047f59bb2c55aee020c6e9ab63d1bc78a72ba44bb", func := "loop.example/g01057/laws.FnExactSteepestOf", spec := "fnExactSteepestOf", apart := false }
def FnExactSteepestOfSaid : Prop := fnExactSteepestOfRow.holds Try.pinned (OpenSpec.ofChange fnExactSteepestOfSpec)

/-- ITS FALSE NEIGHBOUR: 'it returns false'. Refute it at one input. -/
def fnExactSteepestOfWrong : ChangeSpec := { name := "fnExactSteepestOf", fn := fun _ => fun
  | [d] => { results := [.lit (.bool false)], args := [d] }
  | _ => none }
def FnExactSteepestOfWrongFalsely : Prop := fnExactSteepestOfRow.holds Try.pinned (OpenSpec.ofChange fnExactSteepestOfWrong)

/-- 'laws.FnExactLastApart': WHATEVER THE INPUT: true; the input reads as it did. -/
def fnExactLastApartSpec : ChangeSpec := { name := "fnExactLastApart", fn := fun _ => fun
  | [d1, d2] => { results := [.lit (.bool true)], args := [d1, d2] }
  | _ => none }
def fnExactLastApartRow : OpenClaim := { program := "ythdebcdbghgfaaa", sum := "50b0dc4d83b891436d1bfd1047f59bb2c55aee020c6e9ab63d1bc78a72ba44bb", func := "loop.example/g01057/laws.FnExactLastApart", spec := "fnExactLastApart", apart := false }
def FnExactLastApartSaid : Prop := fnExactLastApartRow.holds Try.pinned (OpenSpec.ofChange fnExactLastApartSpec)

/-- ITS FALSE NEIGHBOUR: 'it returns false'. Refute it at one input. -/
def fnExactLastApartWrong : ChangeSpec := { name := "fnExactLastApart", fn := fun _ => fun
  | [d1, d2] => { results := [.lit (.bool false)], args := [d1, d2] }
  | _ => none }
def FnExactLastApartWrongFalsely : Prop := fnExactLastApartRow.holds Try.pinned (OpenSpec.ofChange fnExactLastApartWrong)

/-- 'laws.FnExactOtherPlace': WHATEVER THE INPUT: true; the input reads as it did. -/
def fnExactOtherPlaceSpec : ChangeSpec := { name := "fnExactOtherPlace", fn := fun _ => fun
  | [d1, d2] => { results := [.lit (.bool true)], args := [d1, d2] }
  | _ => none }
def fnExactOtherPlaceRow : OpenClaim := { program := "ythdebcdbghgfaaa", sum := "50b0dc4d83b891436d1bfd1047f59bb2c55aee020c6e9ab63d1bc78a72ba44bb", func := "loop.example/g01057/laws.FnExactOtherPlace", spec := "fnExactOtherPlace", apart := false }
def FnExactOtherPlaceSaid : Prop := fnExactOtherPlaceRow.holds Try.pinned (OpenSpec.ofChange fnExactOtherPlaceSpec)

/-- ITS FALSE NEIGHBOUR: 'it returns false'. Refute it at one input. -/
def fnExactOtherPlaceWrong : ChangeSpec := { name := "fnExactOtherPlace", fn := fun _ => fun
  | [d1, d2] => { results := [.lit (.bool false)], args := [d1, d2] }
  | _ => none }
def FnExactOtherPlaceWrongFalsely : Prop := fnExactOtherPlaceRow.holds Try.pinned (OpenSpec.ofChange fnExactOtherPlaceWrong)

/-- 'laws.FnExactGradeAt': WHATEVER THE INPUT: true; the input reads as it did. -/
def fnExactGradeAtSpec : ChangeSpec := { name := "fnExactGradeAt", fn := fun _ => fun
  | [d1, d2] => { results := [.lit (.bool true)], args := [d1, d2] }
  | _ => none }
def fnExactGradeAtRow : OpenClaim := { program := "ythdebcdbghgfaaa", sum := "50b0dc4d83b891436d1bfd1047f59bb2c55aee020c6e9ab63d1bc78a72ba44bb", func := "loop.example/g01057/laws.FnExactGradeAt", spec := "fnExactGradeAt", apart := false }
def FnExactGradeAtSaid : Prop := fnExactGradeAtRow.holds Try.pinned (OpenSpec.ofChange fnExactGradeAtSpec)

/-- ITS FALSE NEIGHBOUR: 'it returns false'. Refute it at one input. -/
def fnExactGradeAtWrong : ChangeSpec := { name := "fnExactGradeAt", fn := fun _ => fun
  | [d1, d2] => { results := [.lit (.bool false)], args := [d1, d2] }
  | _ => none }
def FnExactGradeAtWrongFalsely : Prop := fnExactGradeAtRow.holds Try.pinned (OpenSpec.ofChange fnExactGradeAtWrong)

/-- 'laws.FnExactHeightAt': WHATEVER THE INPUT: true; the input reads as it did. -/
def fnExactHeightAtSpec : ChangeSpec := { name := "fnExactHeightAt", fn := fun _ => fun
  | [d1, d2] => { results := [.lit (.bool true)], args := [d1, d2] }
  | _ => none }
def fnExactHeightAtRow : OpenClaim := { program := "ythdebcdbghgfaaa", sum := "50b0dc4d83b891436d1bfd1047f59bb2c55aee020c6e9ab63d1bc78a72ba44bb", func := "loop.example/g01057/laws.FnExactHeightAt", spec := "fnExactHeightAt", apart := false }
def FnExactHeightAtSaid : Prop := fnExactHeightAtRow.holds Try.pinned (OpenSpec.ofChange fnExactHeightAtSpec)

/-- ITS FALSE NEIGHBOUR: 'it returns false'. Refute it at one input. -/
def fnExactHeightAtWrong : ChangeSpec := { name := "fnExactHeightAt", fn := fun _ => fun
  | [d1, d2] => { results := [.lit (.bool false)], args := [d1, d2] }
  | _ => none }
def FnExactHeightAtWrongFalsely : Prop := fnExactHeightAtRow.holds Try.pinned (OpenSpec.ofChange fnExactHeightAtWrong)

/-- 'laws.FnExactPlaceAt': WHATEVER THE INPUT: true; the input reads as it did. -/
def fnExactPlaceAtSpec : ChangeSpec := { name := "fnExactPlaceAt", fn := fun _ => fun
  | [d1, d2] => { results := [.lit (.bool true)], args := [d1, d2] }
  | _ => none }
def fnExactPlaceAtRow : OpenClaim := { program := "ythdebcdbghgfaaa", sum := "50b0dc4d83b891436d1bfd1047f59bb2c55aee020c6e9ab63d1bc78a72ba44bb", func := "loop.example/g01057/laws.FnExactPlaceAt", spec := "fnExactPlaceAt", unfollowed := true, recurses := true, apart := false }
def FnExactPlaceAtSaid : Prop := fnExactPlaceAtRow.holds Try.pinned (OpenSpec.ofChange fnExactPlaceAtSpec)

/-- ITS FALSE NEIGHBOUR: 'it returns false'. Refute it at one input. -/
def fnExactPlaceAtWrong : ChangeSpec := { name := "fnExactPlaceAt", fn := fun _ => fun
  | [d1, d2] => { results := [.lit (.bool false)], args := [d1, d2] }
  | _ => none }
def FnExactPlaceAtWrongFalsely : Prop := fnExactPlaceAtRow.holds Try.pinned (OpenSpec.ofChange fnExactPlaceAtWrong)

/- THE SECOND FORM. 'bulk': how many values and letters a reading holds, each counted each time it is reached (what is shared counts as often as it is met; a slice's spare places count too). A statement '..UptoSaid' is the law's where the arguments, and the package variables that the reading takes, are together of bulk at most 1048576: NARROWER than '..Said'. Prove '..Said' where nothing that the law and all that it calls make is longer than what came in: it says more and counts as full. Else prove '..UptoSaid'. A law counts once. -/
mutual
def uptoBulk {H : Type} : DataW H → Nat
  | .lit (.string bytes) => bytes.length + 1
  | .lit _ => 1
  | .nil => 1
  | .ptr d => uptoBulk d + 1
  | .slice elems spare => uptoBulkAll elems + uptoBulkAll spare + 1
  | .agg parts => uptoBulkAll parts + 1
  | .iface _ d => uptoBulk d + 1
  | .map entries => uptoBulkEntries entries + 1
  | .held _ => 1
def uptoBulkAll {H : Type} : List (DataW H) → Nat
  | [] => 0
  | d :: r => uptoBulk d + uptoBulkAll r
def uptoBulkEntries {H : Type} : List (Lit × DataW H) → Nat
  | [] => 0
  | x :: r => uptoBulkEntry x + uptoBulkEntries r
def uptoBulkEntry {H : Type} : Lit × DataW H → Nat
  | (.string bytes, d) => bytes.length + uptoBulk d + 1
  | (_, d) => uptoBulk d + 1
 end
def uptoSmall : (H : Type) → List (DataW H) → Bool := fun _ ds => decide (uptoBulkAll ds ≤ 1048576)
def OpenSpec.upto (s : _root_.Go.ChangeSpec) : _root_.Go.OpenSpec := { _root_.Go.OpenSpec.ofChange s with cond := some uptoSmall }

/-- 'laws.FnExactValidTrack', WHERE WHAT IT READS IS OF BULK AT MOST 1048576: true; the input reads as it did. -/
def fnExactValidTrackUptoRow : OpenClaim := { program := "ythdebcdbghgfaaa", sum := "50b0dc4d83b891436d1bfd1047f59bb2c55aee020c6e9ab63d1bc78a72ba44bb", func := "loop.example/g01057/laws.FnExactValidTrack", spec := "fnExactValidTrack", apart := false, narrowed := true }
def FnExactValidTrackUptoSaid : Prop := fnExactValidTrackUptoRow.holds Try.pinned (OpenSpec.upto fnExactValidTrackSpec)

/-- 'laws.FnExactIsCentred', WHERE WHAT IT READS IS OF BULK AT MOST 1048576: true; the input reads as it did. -/
def fnExactIsCentredUptoRow : OpenClaim := { program := "ythdebcdbghgfaaa", sum := "50b0dc4d83b891436d1bfd1047f59bb2c55aee020c6e9ab63d1bc78a72ba44bb", func := "loop.example/g01057/laws.FnExactIsCentred", spec := "fnExactIsCentred", apart := false, narrowed := true }
def FnExactIsCentredUptoSaid : Prop := fnExactIsCentredUptoRow.holds Try.pinned (OpenSpec.upto fnExactIsCentredSpec)

/-- 'laws.FnExactTrackLength', WHERE WHAT IT READS IS OF BULK AT MOST 1048576: true; the input reads as it did. -/
def fnExactTrackLengthUptoRow : OpenClaim := { program := "ythdebcdbghgfaaa", sum := "50b0dc4d83b891436d1bfd1047f59bb2c55aee020c6e9ab63d1bc78a72ba44bb", func := "loop.example/g01057/laws.FnExactTrackLength", spec := "fnExactTrackLength", apart := false, narrowed := true }
def FnExactTrackLengthUptoSaid : Prop := fnExactTrackLengthUptoRow.holds Try.pinned (OpenSpec.upto fnExactTrackLengthSpec)

/-- 'laws.FnExactMeetingHalves', WHERE WHAT IT READS IS OF BULK AT MOST 1048576: true; the input reads as it did. -/
def fnExactMeetingHalvesUptoRow : OpenClaim := { program := "ythdebcdbghgfaaa", sum := "50b0dc4d83b891436d1bfd1047f59bb2c55aee020c6e9ab63d1bc78a72ba44bb", func := "loop.example/g01057/laws.FnExactMeetingHalves", spec := "fnExactMeetingHalves", apart := false, narrowed := true }
def FnExactMeetingHalvesUptoSaid : Prop := fnExactMeetingHalvesUptoRow.holds Try.pinned (OpenSpec.upto fnExactMeetingHalvesSpec)

/-- 'laws.FnExactSteepestOf', WHERE WHAT IT READS IS OF BULK AT MOST 1048576: true; the input reads as it did. -/
def fnExactSteepestOfUptoRow : OpenClaim := { program := "ythdebcdbghgfaaa", sum := "50b0dc4d83b891436d1bfd1047f59bb2c55aee020c6e9ab63d1bc78a72ba44bb", func := "loop.example/g01057/laws.FnExactSteepestOf", spec := "fnExactSteepestOf", apart := false, narrowed := true }
def FnExactSteepestOfUptoSaid : Prop := fnExactSteepestOfUptoRow.holds Try.pinned (OpenSpec.upto fnExactSteepestOfSpec)

/-- 'laws.FnExactLastApart', WHERE WHAT IT READS IS OF BULK AT MOST 1048576: true; the input reads as it did. -/
def fnExactLastApartUptoRow : OpenClaim := { program := "ythdebcdbghgfaaa", sum := "50b0dc4d83b891436d1bfd1047f59bb2c55aee020c6e9ab63d1bc78a72ba44bb", func := "loop.example/g01057/laws.FnExactLastApart", spec := "fnExactLastApart", apart := false, narrowed := true }
def FnExactLastApartUptoSaid : Prop := fnExactLastApartUptoRow.holds Try.pinned (OpenSpec.upto fnExactLastApartSpec)

/-- 'laws.FnExactOtherPlace', WHERE WHAT IT READS IS OF BULK AT MOST 1048576: true; the input reads as it did. -/
def fnExactOtherPlaceUptoRow : OpenClaim := { program := "ythdebcdbghgfaaa", sum := "50b0dc4d83b891436d1bfd1047f59bb2c55aee020c6e9ab63d1bc78a72ba44bb", func := "loop.example/g01057/laws.FnExactOtherPlace", spec := "fnExactOtherPlace", apart := false, narrowed := true }
def FnExactOtherPlaceUptoSaid : Prop := fnExactOtherPlaceUptoRow.holds Try.pinned (OpenSpec.upto fnExactOtherPlaceSpec)

/-- 'laws.FnExactGradeAt', WHERE WHAT IT READS IS OF BULK AT MOST 1048576: true; the input reads as it did. -/
def fnExactGradeAtUptoRow : OpenClaim := { program := "ythdebcdbghgfaaa", sum := "50b0dc4d83b891436d1bfd1047f59bb2c55aee020c6e9ab63d1bc78a72ba44bb", func := "loop.example/g01057/laws.FnExactGradeAt", spec := "fnExactGradeAt", apart := false, narrowed := true }
def FnExactGradeAtUptoSaid : Prop := fnExactGradeAtUptoRow.holds Try.pinned (OpenSpec.upto fnExactGradeAtSpec)

/-- 'laws.FnExactHeightAt', WHERE WHAT IT READS IS OF BULK AT MOST 1048576: true; the input reads as it did. -/
def fnExactHeightAtUptoRow : OpenClaim := { program := "ythdebcdbghgfaaa", sum := "50b0dc4d83b891436d1bfd1047f59bb2c55aee020c6e9ab63d1bc78a72ba44bb", func := "loop.example/g01057/laws.FnExactHeightAt", spec := "fnExactHeightAt", apart := false, narrowed := true }
def FnExactHeightAtUptoSaid : Prop := fnExactHeightAtUptoRow.holds Try.pinned (OpenSpec.upto fnExactHeightAtSpec)

/-- 'laws.FnExactPlaceAt', WHERE WHAT IT READS IS OF BULK AT MOST 1048576: true; the input reads as it did. -/
def fnExactPlaceAtUptoRow : OpenClaim := { program := "ythdebcdbghgfaaa", sum := "50b0dc4d83b891436d1bfd1047f59bb2c55aee020c6e9ab63d1bc78a72ba44bb", func := "loop.example/g01057/laws.FnExactPlaceAt", spec := "fnExactPlaceAt", unfollowed := true, recurses := true, apart := false, narrowed := true }
def FnExactPlaceAtUptoSaid : Prop := fnExactPlaceAtUptoRow.holds Try.pinned (OpenSpec.upto fnExactPlaceAtSpec)

end Rows
end Go.Proofs.Ythdebcdbghgfaaa

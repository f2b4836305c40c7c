/-
  DERIVED. GIVEN WITH THE SEED: THE CARDS: each row of YtlknncmnphbpkaaGreatDoorRows.lean that lists a variable, with what it lists TIED to the program's text (the seventh form; the later family's looks); each row that meets fmt, with fmt's text TOLD by the authors' own Lean function (tested against real Go, not proved from fmt's source: count such statements apart). THE CARD IS WHAT COUNTS. Prove the row's statement (the work); the ties are given (YtlknncmnphbpkaaGreatDoorTie.lean); close each card by the builder's one call (the guide's Derived/Test/ToyasCard.lean, 'card_holds'). Laid BY PROGRAM, IN A SANDBOX (cutbox-door.mjs). By AI agents, Wed Nov 11 2026. No macro, syntax, notation, axiom, sorry.
-/
import Derived.Test.YtlknncmnphbpkaaGreatDoorRows
import GoSem.ClaimSeven
namespace Go.Proofs.YtlknncmnphbpkaaGreatDoor
namespace Rows

/-- THE TIED CARD OF 'laws.FnGrinding'. -/
def fnGrindingCard : Claim7 := { stood := { row := fnGrindingRow, standIns := [], harness := (true, "a391e2e2a0017a087fc9f6aeb87536893a16444204e2ec498761a7b507d81189"), looks := true }, kinds := [], alts := [], laidByText := true, laidKinds := [.data, .data, .data, .data, .sentinel, .sentinel, .pinned], laidTests := true, laidLooks := .later }
def FnGrindingCardSaid : Prop := Claim7.holds Tryz.pinned (.plain (OpenSpec.ofChange fnGrindingSpec)) fnGrindingCard

/-- THE SECOND FORM's CARD OF 'laws.FnGrinding'. -/
def fnGrindingUptoCard : Claim7 := { stood := { row := fnGrindingUptoRow, standIns := [], harness := (true, "a391e2e2a0017a087fc9f6aeb87536893a16444204e2ec498761a7b507d81189"), looks := true }, kinds := [], alts := [], laidByText := true, laidKinds := [.data, .data, .data, .data, .sentinel, .sentinel, .pinned], laidTests := true, laidLooks := .later }
def FnGrindingUptoCardSaid : Prop := Claim7.holds Tryz.pinned (.plain (OpenSpec.upto fnGrindingSpec)) fnGrindingUptoCard
end Rows
end Go.Proofs.YtlknncmnphbpkaaGreatDoor

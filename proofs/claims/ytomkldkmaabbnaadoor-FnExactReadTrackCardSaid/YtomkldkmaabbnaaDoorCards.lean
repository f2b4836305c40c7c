/-
  DERIVED. GIVEN WITH THE SEED: THE CARDS: each row of YtomkldkmaabbnaaDoorRows.lean that lists a variable, with what it lists TIED to the program's text (the seventh form; the later family's looks); each row that meets fmt, with fmt's text TOLD by the authors' own Lean function (tested against real Go, not proved from fmt's source: count such statements apart). THE CARD IS WHAT COUNTS. Prove the row's statement (the work); the ties are given (YtomkldkmaabbnaaDoorTie.lean); close each card by the builder's one call (the guide's Derived/Test/ToyasCard.lean, 'card_holds'). Laid BY PROGRAM, IN A SANDBOX (cutbox-door.mjs). By AI agents, Wed Nov 11 2026. No macro, syntax, notation, axiom, sorry.
-/
import Derived.Test.YtomkldkmaabbnaaDoorRows
import GoSem.ClaimSeven
namespace Go.Proofs.YtomkldkmaabbnaaDoor
namespace Rows

/-- THE TIED CARD OF 'laws.FnExactReadTrack'. -/
def fnExactReadTrackCard : Claim7 := { stood := { row := fnExactReadTrackRow, standIns := [], harness := (true, "bce844c42024a3ceb0f4b08de8cf4d7b71751ae29a6133975cae1d4c59baf5d0"), looks := true }, kinds := [], alts := [], laidByText := true, laidKinds := [.data, .data, .data, .data, .sentinel, .sentinel, .pinned], laidTests := true, laidLooks := .later }
def FnExactReadTrackCardSaid : Prop := Claim7.holds Tryd.pinned (.plain (OpenSpec.ofChange fnExactReadTrackSpec)) fnExactReadTrackCard

/-- THE SECOND FORM's CARD OF 'laws.FnExactReadTrack'. -/
def fnExactReadTrackUptoCard : Claim7 := { stood := { row := fnExactReadTrackUptoRow, standIns := [], harness := (true, "bce844c42024a3ceb0f4b08de8cf4d7b71751ae29a6133975cae1d4c59baf5d0"), looks := true }, kinds := [], alts := [], laidByText := true, laidKinds := [.data, .data, .data, .data, .sentinel, .sentinel, .pinned], laidTests := true, laidLooks := .later }
def FnExactReadTrackUptoCardSaid : Prop := Claim7.holds Tryd.pinned (.plain (OpenSpec.upto fnExactReadTrackSpec)) fnExactReadTrackUptoCard
end Rows
end Go.Proofs.YtomkldkmaabbnaaDoor

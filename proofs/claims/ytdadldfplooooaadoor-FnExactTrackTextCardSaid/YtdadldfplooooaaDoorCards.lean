/-
  DERIVED. GIVEN WITH THE SEED: THE CARDS: each row of YtdadldfplooooaaDoorRows.lean that lists a variable, with what it lists TIED to the program's text (the seventh form; the later family's looks); each row that meets fmt, with fmt's text TOLD by the authors' own Lean function (tested against real Go, not proved from fmt's source: count such statements apart). THE CARD IS WHAT COUNTS. Prove the row's statement (the work); the ties are given (YtdadldfplooooaaDoorTie.lean); close each card by the builder's one call (the guide's Derived/Test/ToyasCard.lean, 'card_holds'). Laid BY PROGRAM, IN A SANDBOX (cutbox-door.mjs). By AI agents, Wed Nov 11 2026. No macro, syntax, notation, axiom, sorry.
-/
import Derived.Test.YtdadldfplooooaaDoorRows
import GoSem.ClaimSeven
namespace Go.Proofs.YtdadldfplooooaaDoor
namespace Rows

/-- THE TIED CARD OF 'laws.FnExactBendText'. -/
def fnExactBendTextCard : Claim7 := { stood := { row := fnExactBendTextRow, standIns := [], harness := (true, "e6aebfd97db1f095bbd9b909e94ad9f05ec7abe831b9fcbf0e14387dfadd5bd4"), looks := true }, kinds := [], alts := [], laidByText := true, laidKinds := [.data, .data, .data], laidTests := true, laidLooks := .later }
def FnExactBendTextCardSaid : Prop := Claim7.holds Tryd.pinned (.plain (OpenSpec.ofChange fnExactBendTextSpec)) fnExactBendTextCard

/-- THE TIED CARD OF 'laws.FnExactTrackText'. -/
def fnExactTrackTextCard : Claim7 := { stood := { row := fnExactTrackTextRow, standIns := [], harness := (true, "e6aebfd97db1f095bbd9b909e94ad9f05ec7abe831b9fcbf0e14387dfadd5bd4"), looks := true }, kinds := [], alts := [], laidByText := true, laidKinds := [.data, .data, .data], laidTests := true, laidLooks := .later }
def FnExactTrackTextCardSaid : Prop := Claim7.holds Tryd.pinned (.plain (OpenSpec.ofChange fnExactTrackTextSpec)) fnExactTrackTextCard

/-- THE TIED CARD OF 'laws.FnExactReadDecimal'. -/
def fnExactReadDecimalCard : Claim7 := { stood := { row := fnExactReadDecimalRow, standIns := [], harness := (true, "e6aebfd97db1f095bbd9b909e94ad9f05ec7abe831b9fcbf0e14387dfadd5bd4"), looks := true }, kinds := [], alts := [], laidByText := true, laidKinds := [.data, .data, .data, .sentinel, .sentinel], laidTests := true, laidLooks := .later }
def FnExactReadDecimalCardSaid : Prop := Claim7.holds Tryd.pinned (.plain (OpenSpec.ofChange fnExactReadDecimalSpec)) fnExactReadDecimalCard

/-- THE TIED CARD OF 'laws.FnExactReadList'. -/
def fnExactReadListCard : Claim7 := { stood := { row := fnExactReadListRow, standIns := [], harness := (true, "e6aebfd97db1f095bbd9b909e94ad9f05ec7abe831b9fcbf0e14387dfadd5bd4"), looks := true }, kinds := [], alts := [], laidByText := true, laidKinds := [.data, .data, .data, .data, .sentinel, .sentinel, .pinned], laidTests := true, laidLooks := .later }
def FnExactReadListCardSaid : Prop := Claim7.holds Tryd.pinned (.plain (OpenSpec.ofChange fnExactReadListSpec)) fnExactReadListCard

/-- THE TIED CARD OF 'laws.FnExactReadBend'. -/
def fnExactReadBendCard : Claim7 := { stood := { row := fnExactReadBendRow, standIns := [], harness := (true, "e6aebfd97db1f095bbd9b909e94ad9f05ec7abe831b9fcbf0e14387dfadd5bd4"), looks := true }, kinds := [], alts := [], laidByText := true, laidKinds := [.data, .data, .data, .data, .sentinel, .sentinel, .pinned], laidTests := true, laidLooks := .later }
def FnExactReadBendCardSaid : Prop := Claim7.holds Tryd.pinned (.plain (OpenSpec.ofChange fnExactReadBendSpec)) fnExactReadBendCard

/-- THE TIED CARD OF 'laws.FnExactReadTrack'. -/
def fnExactReadTrackCard : Claim7 := { stood := { row := fnExactReadTrackRow, standIns := [], harness := (true, "e6aebfd97db1f095bbd9b909e94ad9f05ec7abe831b9fcbf0e14387dfadd5bd4"), looks := true }, kinds := [], alts := [], laidByText := true, laidKinds := [.data, .data, .data, .data, .sentinel, .sentinel, .pinned], laidTests := true, laidLooks := .later }
def FnExactReadTrackCardSaid : Prop := Claim7.holds Tryd.pinned (.plain (OpenSpec.ofChange fnExactReadTrackSpec)) fnExactReadTrackCard

/-- THE SECOND FORM's CARD OF 'laws.FnExactBendText'. -/
def fnExactBendTextUptoCard : Claim7 := { stood := { row := fnExactBendTextUptoRow, standIns := [], harness := (true, "e6aebfd97db1f095bbd9b909e94ad9f05ec7abe831b9fcbf0e14387dfadd5bd4"), looks := true }, kinds := [], alts := [], laidByText := true, laidKinds := [.data, .data, .data], laidTests := true, laidLooks := .later }
def FnExactBendTextUptoCardSaid : Prop := Claim7.holds Tryd.pinned (.plain (OpenSpec.upto fnExactBendTextSpec)) fnExactBendTextUptoCard

/-- THE SECOND FORM's CARD OF 'laws.FnExactTrackText'. -/
def fnExactTrackTextUptoCard : Claim7 := { stood := { row := fnExactTrackTextUptoRow, standIns := [], harness := (true, "e6aebfd97db1f095bbd9b909e94ad9f05ec7abe831b9fcbf0e14387dfadd5bd4"), looks := true }, kinds := [], alts := [], laidByText := true, laidKinds := [.data, .data, .data], laidTests := true, laidLooks := .later }
def FnExactTrackTextUptoCardSaid : Prop := Claim7.holds Tryd.pinned (.plain (OpenSpec.upto fnExactTrackTextSpec)) fnExactTrackTextUptoCard

/-- THE SECOND FORM's CARD OF 'laws.FnExactReadDecimal'. -/
def fnExactReadDecimalUptoCard : Claim7 := { stood := { row := fnExactReadDecimalUptoRow, standIns := [], harness := (true, "e6aebfd97db1f095bbd9b909e94ad9f05ec7abe831b9fcbf0e14387dfadd5bd4"), looks := true }, kinds := [], alts := [], laidByText := true, laidKinds := [.data, .data, .data, .sentinel, .sentinel], laidTests := true, laidLooks := .later }
def FnExactReadDecimalUptoCardSaid : Prop := Claim7.holds Tryd.pinned (.plain (OpenSpec.upto fnExactReadDecimalSpec)) fnExactReadDecimalUptoCard

/-- THE SECOND FORM's CARD OF 'laws.FnExactReadList'. -/
def fnExactReadListUptoCard : Claim7 := { stood := { row := fnExactReadListUptoRow, standIns := [], harness := (true, "e6aebfd97db1f095bbd9b909e94ad9f05ec7abe831b9fcbf0e14387dfadd5bd4"), looks := true }, kinds := [], alts := [], laidByText := true, laidKinds := [.data, .data, .data, .data, .sentinel, .sentinel, .pinned], laidTests := true, laidLooks := .later }
def FnExactReadListUptoCardSaid : Prop := Claim7.holds Tryd.pinned (.plain (OpenSpec.upto fnExactReadListSpec)) fnExactReadListUptoCard

/-- THE SECOND FORM's CARD OF 'laws.FnExactReadBend'. -/
def fnExactReadBendUptoCard : Claim7 := { stood := { row := fnExactReadBendUptoRow, standIns := [], harness := (true, "e6aebfd97db1f095bbd9b909e94ad9f05ec7abe831b9fcbf0e14387dfadd5bd4"), looks := true }, kinds := [], alts := [], laidByText := true, laidKinds := [.data, .data, .data, .data, .sentinel, .sentinel, .pinned], laidTests := true, laidLooks := .later }
def FnExactReadBendUptoCardSaid : Prop := Claim7.holds Tryd.pinned (.plain (OpenSpec.upto fnExactReadBendSpec)) fnExactReadBendUptoCard

/-- THE SECOND FORM's CARD OF 'laws.FnExactReadTrack'. -/
def fnExactReadTrackUptoCard : Claim7 := { stood := { row := fnExactReadTrackUptoRow, standIns := [], harness := (true, "e6aebfd97db1f095bbd9b909e94ad9f05ec7abe831b9fcbf0e14387dfadd5bd4"), looks := true }, kinds := [], alts := [], laidByText := true, laidKinds := [.data, .data, .data, .data, .sentinel, .sentinel, .pinned], laidTests := true, laidLooks := .later }
def FnExactReadTrackUptoCardSaid : Prop := Claim7.holds Tryd.pinned (.plain (OpenSpec.upto fnExactReadTrackSpec)) fnExactReadTrackUptoCard
end Rows
end Go.Proofs.YtdadldfplooooaaDoor

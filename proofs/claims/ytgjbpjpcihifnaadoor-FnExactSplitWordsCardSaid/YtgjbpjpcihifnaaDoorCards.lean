/-
  DERIVED. GIVEN WITH THE SEED: THE CARDS: each row of YtgjbpjpcihifnaaDoorRows.lean that lists a variable, with what it lists TIED to the program's text (the seventh form; the later family's looks); each row that meets fmt, with fmt's text TOLD by the authors' own Lean function (tested against real Go, not proved from fmt's source: count such statements apart). THE CARD IS WHAT COUNTS. Prove the row's statement (the work); the ties are given (YtgjbpjpcihifnaaDoorTie.lean); close each card by the builder's one call (the guide's Derived/Test/ToyasCard.lean, 'card_holds'). Laid BY PROGRAM, IN A SANDBOX (cutbox-door.mjs). By AI agents, Wed Nov 11 2026. No macro, syntax, notation, axiom, sorry.
-/
import Derived.Test.YtgjbpjpcihifnaaDoorRows
import GoSem.ClaimSeven
namespace Go.Proofs.YtgjbpjpcihifnaaDoor
namespace Rows

/-- THE TIED CARD OF 'laws.FnExactDecimal'. -/
def fnExactDecimalCard : Claim7 := { stood := { row := fnExactDecimalRow, standIns := [], harness := (true, "6b455d73b396aeb2e6a92724974e7c7e5077021fb94d10720f585ffef968d5a4"), looks := false }, kinds := [], alts := [], laidByText := true, laidKinds := [.data, .data, .data], laidTests := true, laidLooks := .later }
def FnExactDecimalCardSaid : Prop := Claim7.holds Tryd.pinned (.plain (OpenSpec.ofChange fnExactDecimalSpec)) fnExactDecimalCard

/-- THE TIED CARD OF 'laws.FnExactSplitWords'. -/
def fnExactSplitWordsCard : Claim7 := { stood := { row := fnExactSplitWordsRow, standIns := [], harness := (true, "6b455d73b396aeb2e6a92724974e7c7e5077021fb94d10720f585ffef968d5a4"), looks := false }, kinds := [], alts := [], laidByText := true, laidKinds := [.data, .pinned], laidTests := true, laidLooks := .later }
def FnExactSplitWordsCardSaid : Prop := Claim7.holds Tryd.pinned (.plain (OpenSpec.ofChange fnExactSplitWordsSpec)) fnExactSplitWordsCard

/-- THE TIED CARD OF 'laws.FnExactListText'. -/
def fnExactListTextCard : Claim7 := { stood := { row := fnExactListTextRow, standIns := [], harness := (true, "6b455d73b396aeb2e6a92724974e7c7e5077021fb94d10720f585ffef968d5a4"), looks := false }, kinds := [], alts := [], laidByText := true, laidKinds := [.data, .data, .data], laidTests := true, laidLooks := .later }
def FnExactListTextCardSaid : Prop := Claim7.holds Tryd.pinned (.plain (OpenSpec.ofChange fnExactListTextSpec)) fnExactListTextCard

/-- THE TIED CARD OF 'laws.FnExactClockText'. -/
def fnExactClockTextCard : Claim7 := { stood := { row := fnExactClockTextRow, standIns := [], harness := (true, "6b455d73b396aeb2e6a92724974e7c7e5077021fb94d10720f585ffef968d5a4"), looks := false }, kinds := [], alts := [], laidByText := true, laidKinds := [.data, .data, .data], laidTests := true, laidLooks := .later }
def FnExactClockTextCardSaid : Prop := Claim7.holds Tryd.pinned (.plain (OpenSpec.ofChange fnExactClockTextSpec)) fnExactClockTextCard

/-- THE TIED CARD OF 'laws.FnExactLapText'. -/
def fnExactLapTextCard : Claim7 := { stood := { row := fnExactLapTextRow, standIns := [], harness := (true, "6b455d73b396aeb2e6a92724974e7c7e5077021fb94d10720f585ffef968d5a4"), looks := false }, kinds := [], alts := [], laidByText := true, laidKinds := [.data, .data, .data], laidTests := true, laidLooks := .later }
def FnExactLapTextCardSaid : Prop := Claim7.holds Tryd.pinned (.plain (OpenSpec.ofChange fnExactLapTextSpec)) fnExactLapTextCard

/-- THE TIED CARD OF 'laws.FnExactFixedText'. -/
def fnExactFixedTextCard : Claim7 := { stood := { row := fnExactFixedTextRow, standIns := [], harness := (true, "6b455d73b396aeb2e6a92724974e7c7e5077021fb94d10720f585ffef968d5a4"), looks := false }, kinds := [], alts := [], laidByText := true, laidKinds := [.data, .data, .data], laidTests := true, laidLooks := .later }
def FnExactFixedTextCardSaid : Prop := Claim7.holds Tryd.pinned (.plain (OpenSpec.ofChange fnExactFixedTextSpec)) fnExactFixedTextCard

/-- THE TIED CARD OF 'laws.FnExactSpeedText'. -/
def fnExactSpeedTextCard : Claim7 := { stood := { row := fnExactSpeedTextRow, standIns := [], harness := (true, "6b455d73b396aeb2e6a92724974e7c7e5077021fb94d10720f585ffef968d5a4"), looks := false }, kinds := [], alts := [], laidByText := true, laidKinds := [.data, .data, .data], laidTests := true, laidLooks := .later }
def FnExactSpeedTextCardSaid : Prop := Claim7.holds Tryd.pinned (.plain (OpenSpec.ofChange fnExactSpeedTextSpec)) fnExactSpeedTextCard

/-- THE TIED CARD OF 'laws.FnExactDateText'. -/
def fnExactDateTextCard : Claim7 := { stood := { row := fnExactDateTextRow, standIns := [], harness := (true, "6b455d73b396aeb2e6a92724974e7c7e5077021fb94d10720f585ffef968d5a4"), looks := false }, kinds := [], alts := [], laidByText := true, laidKinds := [.data, .data, .data], laidTests := true, laidLooks := .later }
def FnExactDateTextCardSaid : Prop := Claim7.holds Tryd.pinned (.plain (OpenSpec.ofChange fnExactDateTextSpec)) fnExactDateTextCard

/-- THE SECOND FORM's CARD OF 'laws.FnExactDecimal'. -/
def fnExactDecimalUptoCard : Claim7 := { stood := { row := fnExactDecimalUptoRow, standIns := [], harness := (true, "6b455d73b396aeb2e6a92724974e7c7e5077021fb94d10720f585ffef968d5a4"), looks := false }, kinds := [], alts := [], laidByText := true, laidKinds := [.data, .data, .data], laidTests := true, laidLooks := .later }
def FnExactDecimalUptoCardSaid : Prop := Claim7.holds Tryd.pinned (.plain (OpenSpec.upto fnExactDecimalSpec)) fnExactDecimalUptoCard

/-- THE SECOND FORM's CARD OF 'laws.FnExactSplitWords'. -/
def fnExactSplitWordsUptoCard : Claim7 := { stood := { row := fnExactSplitWordsUptoRow, standIns := [], harness := (true, "6b455d73b396aeb2e6a92724974e7c7e5077021fb94d10720f585ffef968d5a4"), looks := false }, kinds := [], alts := [], laidByText := true, laidKinds := [.data, .pinned], laidTests := true, laidLooks := .later }
def FnExactSplitWordsUptoCardSaid : Prop := Claim7.holds Tryd.pinned (.plain (OpenSpec.upto fnExactSplitWordsSpec)) fnExactSplitWordsUptoCard

/-- THE SECOND FORM's CARD OF 'laws.FnExactListText'. -/
def fnExactListTextUptoCard : Claim7 := { stood := { row := fnExactListTextUptoRow, standIns := [], harness := (true, "6b455d73b396aeb2e6a92724974e7c7e5077021fb94d10720f585ffef968d5a4"), looks := false }, kinds := [], alts := [], laidByText := true, laidKinds := [.data, .data, .data], laidTests := true, laidLooks := .later }
def FnExactListTextUptoCardSaid : Prop := Claim7.holds Tryd.pinned (.plain (OpenSpec.upto fnExactListTextSpec)) fnExactListTextUptoCard

/-- THE SECOND FORM's CARD OF 'laws.FnExactClockText'. -/
def fnExactClockTextUptoCard : Claim7 := { stood := { row := fnExactClockTextUptoRow, standIns := [], harness := (true, "6b455d73b396aeb2e6a92724974e7c7e5077021fb94d10720f585ffef968d5a4"), looks := false }, kinds := [], alts := [], laidByText := true, laidKinds := [.data, .data, .data], laidTests := true, laidLooks := .later }
def FnExactClockTextUptoCardSaid : Prop := Claim7.holds Tryd.pinned (.plain (OpenSpec.upto fnExactClockTextSpec)) fnExactClockTextUptoCard

/-- THE SECOND FORM's CARD OF 'laws.FnExactLapText'. -/
def fnExactLapTextUptoCard : Claim7 := { stood := { row := fnExactLapTextUptoRow, standIns := [], harness := (true, "6b455d73b396aeb2e6a92724974e7c7e5077021fb94d10720f585ffef968d5a4"), looks := false }, kinds := [], alts := [], laidByText := true, laidKinds := [.data, .data, .data], laidTests := true, laidLooks := .later }
def FnExactLapTextUptoCardSaid : Prop := Claim7.holds Tryd.pinned (.plain (OpenSpec.upto fnExactLapTextSpec)) fnExactLapTextUptoCard

/-- THE SECOND FORM's CARD OF 'laws.FnExactFixedText'. -/
def fnExactFixedTextUptoCard : Claim7 := { stood := { row := fnExactFixedTextUptoRow, standIns := [], harness := (true, "6b455d73b396aeb2e6a92724974e7c7e5077021fb94d10720f585ffef968d5a4"), looks := false }, kinds := [], alts := [], laidByText := true, laidKinds := [.data, .data, .data], laidTests := true, laidLooks := .later }
def FnExactFixedTextUptoCardSaid : Prop := Claim7.holds Tryd.pinned (.plain (OpenSpec.upto fnExactFixedTextSpec)) fnExactFixedTextUptoCard

/-- THE SECOND FORM's CARD OF 'laws.FnExactSpeedText'. -/
def fnExactSpeedTextUptoCard : Claim7 := { stood := { row := fnExactSpeedTextUptoRow, standIns := [], harness := (true, "6b455d73b396aeb2e6a92724974e7c7e5077021fb94d10720f585ffef968d5a4"), looks := false }, kinds := [], alts := [], laidByText := true, laidKinds := [.data, .data, .data], laidTests := true, laidLooks := .later }
def FnExactSpeedTextUptoCardSaid : Prop := Claim7.holds Tryd.pinned (.plain (OpenSpec.upto fnExactSpeedTextSpec)) fnExactSpeedTextUptoCard

/-- THE SECOND FORM's CARD OF 'laws.FnExactDateText'. -/
def fnExactDateTextUptoCard : Claim7 := { stood := { row := fnExactDateTextUptoRow, standIns := [], harness := (true, "6b455d73b396aeb2e6a92724974e7c7e5077021fb94d10720f585ffef968d5a4"), looks := false }, kinds := [], alts := [], laidByText := true, laidKinds := [.data, .data, .data], laidTests := true, laidLooks := .later }
def FnExactDateTextUptoCardSaid : Prop := Claim7.holds Tryd.pinned (.plain (OpenSpec.upto fnExactDateTextSpec)) fnExactDateTextUptoCard
end Rows
end Go.Proofs.YtgjbpjpcihifnaaDoor

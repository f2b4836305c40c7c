/-
  No cell of these rows narrows 'for every input' (looked for: loops, veiled, ifaces, maps, wideKeys, modest, calm, conditions, laid).
  DERIVED. THE GIVEN ROWS OF THIS SEAT. 14 by the template 'for every input the law returns true; each argument reads behind the call as it read before'; 0 by the template 'total and deterministic' (their statements: YtmpjoigmjablpaaTotals.lean).
  GIVEN WITH THE SEED: the statements are not yours to turn. If you find one false, say at which input.
  Laid BY PROGRAM, IN A SANDBOX (cutbox-rows.mjs): the forced cells as the released guide's own fill.sh prints them over the translation 612253379531fb0a… (all of the seat's roots in one cut). By AI agents, Wed Nov 11 2026. No macro, syntax, notation, axiom, sorry.
-/
import Derived.Test.YtmpjoigmjablpaaChecked
import GoSem.Claim
import GoSem.ClaimJoined
import GoSem.ClaimMapViews
import Derived.JoinedTies
import Derived.KernelRfl
namespace Go.Proofs.Ytmpjoigmjablpaa
/- THE CELL 'sum', in the pinned program and in every row, IS THE sha256 OF THE DUMP (.gsa) THAT YtmpjoigmjablpaaProg.lean LOADS. Nothing in Lean hashes anything: it is a label: what it is worth is what the hold of that sum in a sandbox is worth. -/
noncomputable def Try.pinned : Pinned := { name := "ytmpjoigmjablpaa", sum := "612253379531fb0a824f3396e4159f62795ca47aabd120bba726a730a462d6b9", checked := Try.checked }
namespace Rows
def none {H : Type} : Left H := { results := [], args := [] }

/-- 'laws.FnExactConstants': WHATEVER THE INPUT: true; the input reads as it did. -/
def fnExactConstantsSpec : ChangeSpec := { name := "fnExactConstants", fn := fun _ => fun
  | [] => { results := [.lit (.bool true)], args := [] }
  | _ => none }
def fnExactConstantsRow : OpenClaim := { program := "ytmpjoigmjablpaa", sum := "612253379531fb0a824f3396e4159f62795ca47aabd120bba726a730a462d6b9", func := "loop.example/g01057/laws.FnExactConstants", spec := "fnExactConstants", apart := false }
def FnExactConstantsSaid : Prop := fnExactConstantsRow.holds Try.pinned (OpenSpec.ofChange fnExactConstantsSpec)

/-- ITS FALSE NEIGHBOUR: 'it returns false'. Refute it at one input. -/
def fnExactConstantsWrong : ChangeSpec := { name := "fnExactConstants", fn := fun _ => fun
  | [] => { results := [.lit (.bool false)], args := [] }
  | _ => none }
def FnExactConstantsWrongFalsely : Prop := fnExactConstantsRow.holds Try.pinned (OpenSpec.ofChange fnExactConstantsWrong)

/-- 'laws.FnExactCodeName': WHATEVER THE INPUT: true; the input reads as it did. -/
def fnExactCodeNameSpec : ChangeSpec := { name := "fnExactCodeName", fn := fun _ => fun
  | [d] => { results := [.lit (.bool true)], args := [d] }
  | _ => none }
def fnExactCodeNameRow : OpenClaim := { program := "ytmpjoigmjablpaa", sum := "612253379531fb0a824f3396e4159f62795ca47aabd120bba726a730a462d6b9", func := "loop.example/g01057/laws.FnExactCodeName", spec := "fnExactCodeName", apart := false }
def FnExactCodeNameSaid : Prop := fnExactCodeNameRow.holds Try.pinned (OpenSpec.ofChange fnExactCodeNameSpec)

/-- ITS FALSE NEIGHBOUR: 'it returns false'. Refute it at one input. -/
def fnExactCodeNameWrong : ChangeSpec := { name := "fnExactCodeName", fn := fun _ => fun
  | [d] => { results := [.lit (.bool false)], args := [d] }
  | _ => none }
def FnExactCodeNameWrongFalsely : Prop := fnExactCodeNameRow.holds Try.pinned (OpenSpec.ofChange fnExactCodeNameWrong)

/-- 'laws.FnExactSecondsFor': WHATEVER THE INPUT: true; the input reads as it did. -/
def fnExactSecondsForSpec : ChangeSpec := { name := "fnExactSecondsFor", fn := fun _ => fun
  | [d1, d2] => { results := [.lit (.bool true)], args := [d1, d2] }
  | _ => none }
def fnExactSecondsForRow : OpenClaim := { program := "ytmpjoigmjablpaa", sum := "612253379531fb0a824f3396e4159f62795ca47aabd120bba726a730a462d6b9", func := "loop.example/g01057/laws.FnExactSecondsFor", spec := "fnExactSecondsFor", apart := false }
def FnExactSecondsForSaid : Prop := fnExactSecondsForRow.holds Try.pinned (OpenSpec.ofChange fnExactSecondsForSpec)

/-- ITS FALSE NEIGHBOUR: 'it returns false'. Refute it at one input. -/
def fnExactSecondsForWrong : ChangeSpec := { name := "fnExactSecondsFor", fn := fun _ => fun
  | [d1, d2] => { results := [.lit (.bool false)], args := [d1, d2] }
  | _ => none }
def FnExactSecondsForWrongFalsely : Prop := fnExactSecondsForRow.holds Try.pinned (OpenSpec.ofChange fnExactSecondsForWrong)

/-- 'laws.FnExactWeekdayOf': WHATEVER THE INPUT: true; the input reads as it did. -/
def fnExactWeekdayOfSpec : ChangeSpec := { name := "fnExactWeekdayOf", fn := fun _ => fun
  | [d] => { results := [.lit (.bool true)], args := [d] }
  | _ => none }
def fnExactWeekdayOfRow : OpenClaim := { program := "ytmpjoigmjablpaa", sum := "612253379531fb0a824f3396e4159f62795ca47aabd120bba726a730a462d6b9", func := "loop.example/g01057/laws.FnExactWeekdayOf", spec := "fnExactWeekdayOf", apart := false }
def FnExactWeekdayOfSaid : Prop := fnExactWeekdayOfRow.holds Try.pinned (OpenSpec.ofChange fnExactWeekdayOfSpec)

/-- ITS FALSE NEIGHBOUR: 'it returns false'. Refute it at one input. -/
def fnExactWeekdayOfWrong : ChangeSpec := { name := "fnExactWeekdayOf", fn := fun _ => fun
  | [d] => { results := [.lit (.bool false)], args := [d] }
  | _ => none }
def FnExactWeekdayOfWrongFalsely : Prop := fnExactWeekdayOfRow.holds Try.pinned (OpenSpec.ofChange fnExactWeekdayOfWrong)

/-- 'laws.FnExactRootOf': WHATEVER THE INPUT: true; the input reads as it did. -/
def fnExactRootOfSpec : ChangeSpec := { name := "fnExactRootOf", fn := fun _ => fun
  | [d] => { results := [.lit (.bool true)], args := [d] }
  | _ => none }
def fnExactRootOfRow : OpenClaim := { program := "ytmpjoigmjablpaa", sum := "612253379531fb0a824f3396e4159f62795ca47aabd120bba726a730a462d6b9", func := "loop.example/g01057/laws.FnExactRootOf", spec := "fnExactRootOf", apart := false }
def FnExactRootOfSaid : Prop := fnExactRootOfRow.holds Try.pinned (OpenSpec.ofChange fnExactRootOfSpec)

/-- ITS FALSE NEIGHBOUR: 'it returns false'. Refute it at one input. -/
def fnExactRootOfWrong : ChangeSpec := { name := "fnExactRootOf", fn := fun _ => fun
  | [d] => { results := [.lit (.bool false)], args := [d] }
  | _ => none }
def FnExactRootOfWrongFalsely : Prop := fnExactRootOfRow.holds Try.pinned (OpenSpec.ofChange fnExactRootOfWrong)

/-- 'laws.FnExactIsName': WHATEVER THE INPUT: true; the input reads as it did. -/
def fnExactIsNameSpec : ChangeSpec := { name := "fnExactIsName", fn := fun _ => fun
  | [d] => { results := [.lit (.bool true)], args := [d] }
  | _ => none }
def fnExactIsNameRow : OpenClaim := { program := "ytmpjoigmjablpaa", sum := "612253379531fb0a824f3396e4159f62795ca47aabd120bba726a730a462d6b9", func := "loop.example/g01057/laws.FnExactIsName", spec := "fnExactIsName", apart := false }
def FnExactIsNameSaid : Prop := fnExactIsNameRow.holds Try.pinned (OpenSpec.ofChange fnExactIsNameSpec)

/-- ITS FALSE NEIGHBOUR: 'it returns false'. Refute it at one input. -/
def fnExactIsNameWrong : ChangeSpec := { name := "fnExactIsName", fn := fun _ => fun
  | [d] => { results := [.lit (.bool false)], args := [d] }
  | _ => none }
def FnExactIsNameWrongFalsely : Prop := fnExactIsNameRow.holds Try.pinned (OpenSpec.ofChange fnExactIsNameWrong)

/-- 'laws.FnExactWorkDays': WHATEVER THE INPUT: true; the input reads as it did. -/
def fnExactWorkDaysSpec : ChangeSpec := { name := "fnExactWorkDays", fn := fun _ => fun
  | [d1, d2] => { results := [.lit (.bool true)], args := [d1, d2] }
  | _ => none }
def fnExactWorkDaysRow : OpenClaim := { program := "ytmpjoigmjablpaa", sum := "612253379531fb0a824f3396e4159f62795ca47aabd120bba726a730a462d6b9", func := "loop.example/g01057/laws.FnExactWorkDays", spec := "fnExactWorkDays", apart := false }
def FnExactWorkDaysSaid : Prop := fnExactWorkDaysRow.holds Try.pinned (OpenSpec.ofChange fnExactWorkDaysSpec)

/-- ITS FALSE NEIGHBOUR: 'it returns false'. Refute it at one input. -/
def fnExactWorkDaysWrong : ChangeSpec := { name := "fnExactWorkDays", fn := fun _ => fun
  | [d1, d2] => { results := [.lit (.bool false)], args := [d1, d2] }
  | _ => none }
def FnExactWorkDaysWrongFalsely : Prop := fnExactWorkDaysRow.holds Try.pinned (OpenSpec.ofChange fnExactWorkDaysWrong)

/-- 'laws.FnExactCrc16': WHATEVER THE INPUT: true; the input reads as it did. -/
def fnExactCrc16Spec : ChangeSpec := { name := "fnExactCrc16", fn := fun _ => fun
  | [d1, d2] => { results := [.lit (.bool true)], args := [d1, d2] }
  | _ => none }
def fnExactCrc16Row : OpenClaim := { program := "ytmpjoigmjablpaa", sum := "612253379531fb0a824f3396e4159f62795ca47aabd120bba726a730a462d6b9", func := "loop.example/g01057/laws.FnExactCrc16", spec := "fnExactCrc16", apart := false }
def FnExactCrc16Said : Prop := fnExactCrc16Row.holds Try.pinned (OpenSpec.ofChange fnExactCrc16Spec)

/-- ITS FALSE NEIGHBOUR: 'it returns false'. Refute it at one input. -/
def fnExactCrc16Wrong : ChangeSpec := { name := "fnExactCrc16", fn := fun _ => fun
  | [d1, d2] => { results := [.lit (.bool false)], args := [d1, d2] }
  | _ => none }
def FnExactCrc16WrongFalsely : Prop := fnExactCrc16Row.holds Try.pinned (OpenSpec.ofChange fnExactCrc16Wrong)

/-- 'laws.FnExactDivRound': WHATEVER THE INPUT: true; the input reads as it did. -/
def fnExactDivRoundSpec : ChangeSpec := { name := "fnExactDivRound", fn := fun _ => fun
  | [d1, d2] => { results := [.lit (.bool true)], args := [d1, d2] }
  | _ => none }
def fnExactDivRoundRow : OpenClaim := { program := "ytmpjoigmjablpaa", sum := "612253379531fb0a824f3396e4159f62795ca47aabd120bba726a730a462d6b9", func := "loop.example/g01057/laws.FnExactDivRound", spec := "fnExactDivRound", apart := false }
def FnExactDivRoundSaid : Prop := fnExactDivRoundRow.holds Try.pinned (OpenSpec.ofChange fnExactDivRoundSpec)

/-- ITS FALSE NEIGHBOUR: 'it returns false'. Refute it at one input. -/
def fnExactDivRoundWrong : ChangeSpec := { name := "fnExactDivRound", fn := fun _ => fun
  | [d1, d2] => { results := [.lit (.bool false)], args := [d1, d2] }
  | _ => none }
def FnExactDivRoundWrongFalsely : Prop := fnExactDivRoundRow.holds Try.pinned (OpenSpec.ofChange fnExactDivRoundWrong)

/-- 'laws.FnExactHourSpeed': WHATEVER THE INPUT: true; the input reads as it did. -/
def fnExactHourSpeedSpec : ChangeSpec := { name := "fnExactHourSpeed", fn := fun _ => fun
  | [d] => { results := [.lit (.bool true)], args := [d] }
  | _ => none }
def fnExactHourSpeedRow : OpenClaim := { program := "ytmpjoigmjablpaa", sum := "612253379531fb0a824f3396e4159f62795ca47aabd120bba726a730a462d6b9", func := "loop.example/g01057/laws.FnExactHourSpeed", spec := "fnExactHourSpeed", apart := false }
def FnExactHourSpeedSaid : Prop := fnExactHourSpeedRow.holds Try.pinned (OpenSpec.ofChange fnExactHourSpeedSpec)

/-- ITS FALSE NEIGHBOUR: 'it returns false'. Refute it at one input. -/
def fnExactHourSpeedWrong : ChangeSpec := { name := "fnExactHourSpeed", fn := fun _ => fun
  | [d] => { results := [.lit (.bool false)], args := [d] }
  | _ => none }
def FnExactHourSpeedWrongFalsely : Prop := fnExactHourSpeedRow.holds Try.pinned (OpenSpec.ofChange fnExactHourSpeedWrong)

/-- 'laws.FnExactDayNumber': WHATEVER THE INPUT: true; the input reads as it did. -/
def fnExactDayNumberSpec : ChangeSpec := { name := "fnExactDayNumber", fn := fun _ => fun
  | [d1, d2, d3] => { results := [.lit (.bool true)], args := [d1, d2, d3] }
  | _ => none }
def fnExactDayNumberRow : OpenClaim := { program := "ytmpjoigmjablpaa", sum := "612253379531fb0a824f3396e4159f62795ca47aabd120bba726a730a462d6b9", func := "loop.example/g01057/laws.FnExactDayNumber", spec := "fnExactDayNumber", apart := false }
def FnExactDayNumberSaid : Prop := fnExactDayNumberRow.holds Try.pinned (OpenSpec.ofChange fnExactDayNumberSpec)

/-- ITS FALSE NEIGHBOUR: 'it returns false'. Refute it at one input. -/
def fnExactDayNumberWrong : ChangeSpec := { name := "fnExactDayNumber", fn := fun _ => fun
  | [d1, d2, d3] => { results := [.lit (.bool false)], args := [d1, d2, d3] }
  | _ => none }
def FnExactDayNumberWrongFalsely : Prop := fnExactDayNumberRow.holds Try.pinned (OpenSpec.ofChange fnExactDayNumberWrong)

/-- 'laws.FnExactBlend': WHATEVER THE INPUT: true; the input reads as it did. -/
def fnExactBlendSpec : ChangeSpec := { name := "fnExactBlend", fn := fun _ => fun
  | [d1, d2, d3, d4, d5] => { results := [.lit (.bool true)], args := [d1, d2, d3, d4, d5] }
  | _ => none }
def fnExactBlendRow : OpenClaim := { program := "ytmpjoigmjablpaa", sum := "612253379531fb0a824f3396e4159f62795ca47aabd120bba726a730a462d6b9", func := "loop.example/g01057/laws.FnExactBlend", spec := "fnExactBlend", apart := false }
def FnExactBlendSaid : Prop := fnExactBlendRow.holds Try.pinned (OpenSpec.ofChange fnExactBlendSpec)

/-- ITS FALSE NEIGHBOUR: 'it returns false'. Refute it at one input. -/
def fnExactBlendWrong : ChangeSpec := { name := "fnExactBlend", fn := fun _ => fun
  | [d1, d2, d3, d4, d5] => { results := [.lit (.bool false)], args := [d1, d2, d3, d4, d5] }
  | _ => none }
def FnExactBlendWrongFalsely : Prop := fnExactBlendRow.holds Try.pinned (OpenSpec.ofChange fnExactBlendWrong)

/-- 'laws.FnExactDateOf': WHATEVER THE INPUT: true; the input reads as it did. -/
def fnExactDateOfSpec : ChangeSpec := { name := "fnExactDateOf", fn := fun _ => fun
  | [d] => { results := [.lit (.bool true)], args := [d] }
  | _ => none }
def fnExactDateOfRow : OpenClaim := { program := "ytmpjoigmjablpaa", sum := "612253379531fb0a824f3396e4159f62795ca47aabd120bba726a730a462d6b9", func := "loop.example/g01057/laws.FnExactDateOf", spec := "fnExactDateOf", apart := false }
def FnExactDateOfSaid : Prop := fnExactDateOfRow.holds Try.pinned (OpenSpec.ofChange fnExactDateOfSpec)

/-- ITS FALSE NEIGHBOUR: 'it returns false'. Refute it at one input. -/
def fnExactDateOfWrong : ChangeSpec := { name := "fnExactDateOf", fn := fun _ => fun
  | [d] => { results := [.lit (.bool false)], args := [d] }
  | _ => none }
def FnExactDateOfWrongFalsely : Prop := fnExactDateOfRow.holds Try.pinned (OpenSpec.ofChange fnExactDateOfWrong)

/-- 'laws.FnExactLeastRadius': WHATEVER THE INPUT: true; the input reads as it did. -/
def fnExactLeastRadiusSpec : ChangeSpec := { name := "fnExactLeastRadius", fn := fun _ => fun
  | [d1, d2, d3] => { results := [.lit (.bool true)], args := [d1, d2, d3] }
  | _ => none }
def fnExactLeastRadiusRow : OpenClaim := { program := "ytmpjoigmjablpaa", sum := "612253379531fb0a824f3396e4159f62795ca47aabd120bba726a730a462d6b9", func := "loop.example/g01057/laws.FnExactLeastRadius", spec := "fnExactLeastRadius", unfollowed := true, recurses := true, apart := false }
def FnExactLeastRadiusSaid : Prop := fnExactLeastRadiusRow.holds Try.pinned (OpenSpec.ofChange fnExactLeastRadiusSpec)

/-- ITS FALSE NEIGHBOUR: 'it returns false'. Refute it at one input. -/
def fnExactLeastRadiusWrong : ChangeSpec := { name := "fnExactLeastRadius", fn := fun _ => fun
  | [d1, d2, d3] => { results := [.lit (.bool false)], args := [d1, d2, d3] }
  | _ => none }
def FnExactLeastRadiusWrongFalsely : Prop := fnExactLeastRadiusRow.holds Try.pinned (OpenSpec.ofChange fnExactLeastRadiusWrong)

/- THE SECOND FORM. 'bulk': how many values and letters a reading holds, each counted each time it is reached (what is shared counts as often as it is met; a slice's spare places count too). A statement '..UptoSaid' is the law's where the arguments, and the package variables that the reading takes, are together of bulk at most 1048576: NARROWER than '..Said'. Prove '..Said' where nothing that the law and all that it calls make is longer than what came in: it says more and counts as full. Else prove '..UptoSaid'. A law counts once. -/
mutual
def uptoBulk {H : Type} : DataW H → Nat
  | .lit (.string bytes) => bytes.length + 1
  | .lit _ => 1
  | .nil => 1
  | .ptr d => uptoBulk d + 1
  | .slice elems spare => uptoBulkAll elems + uptoBulkAll spare + 1
  | .agg parts => uptoBulkAll parts + 1
  | .iface _ d => uptoBulk d + 1
  | .map entries => uptoBulkEntries entries + 1
  | .held _ => 1
def uptoBulkAll {H : Type} : List (DataW H) → Nat
  | [] => 0
  | d :: r => uptoBulk d + uptoBulkAll r
def uptoBulkEntries {H : Type} : List (Lit × DataW H) → Nat
  | [] => 0
  | x :: r => uptoBulkEntry x + uptoBulkEntries r
def uptoBulkEntry {H : Type} : Lit × DataW H → Nat
  | (.string bytes, d) => bytes.length + uptoBulk d + 1
  | (_, d) => uptoBulk d + 1
 end
def uptoSmall : (H : Type) → List (DataW H) → Bool := fun _ ds => decide (uptoBulkAll ds ≤ 1048576)
def OpenSpec.upto (s : _root_.Go.ChangeSpec) : _root_.Go.OpenSpec := { _root_.Go.OpenSpec.ofChange s with cond := some uptoSmall }

/-- 'laws.FnExactConstants', WHERE WHAT IT READS IS OF BULK AT MOST 1048576: true; the input reads as it did. -/
def fnExactConstantsUptoRow : OpenClaim := { program := "ytmpjoigmjablpaa", sum := "612253379531fb0a824f3396e4159f62795ca47aabd120bba726a730a462d6b9", func := "loop.example/g01057/laws.FnExactConstants", spec := "fnExactConstants", apart := false, narrowed := true }
def FnExactConstantsUptoSaid : Prop := fnExactConstantsUptoRow.holds Try.pinned (OpenSpec.upto fnExactConstantsSpec)

/-- 'laws.FnExactCodeName', WHERE WHAT IT READS IS OF BULK AT MOST 1048576: true; the input reads as it did. -/
def fnExactCodeNameUptoRow : OpenClaim := { program := "ytmpjoigmjablpaa", sum := "612253379531fb0a824f3396e4159f62795ca47aabd120bba726a730a462d6b9", func := "loop.example/g01057/laws.FnExactCodeName", spec := "fnExactCodeName", apart := false, narrowed := true }
def FnExactCodeNameUptoSaid : Prop := fnExactCodeNameUptoRow.holds Try.pinned (OpenSpec.upto fnExactCodeNameSpec)

/-- 'laws.FnExactSecondsFor', WHERE WHAT IT READS IS OF BULK AT MOST 1048576: true; the input reads as it did. -/
def fnExactSecondsForUptoRow : OpenClaim := { program := "ytmpjoigmjablpaa", sum := "612253379531fb0a824f3396e4159f62795ca47aabd120bba726a730a462d6b9", func := "loop.example/g01057/laws.FnExactSecondsFor", spec := "fnExactSecondsFor", apart := false, narrowed := true }
def FnExactSecondsForUptoSaid : Prop := fnExactSecondsForUptoRow.holds Try.pinned (OpenSpec.upto fnExactSecondsForSpec)

/-- 'laws.FnExactWeekdayOf', WHERE WHAT IT READS IS OF BULK AT MOST 1048576: true; the input reads as it did. -/
def fnExactWeekdayOfUptoRow : OpenClaim := { program := "ytmpjoigmjablpaa", sum := "612253379531fb0a824f3396e4159f62795ca47aabd120bba726a730a462d6b9", func := "loop.example/g01057/laws.FnExactWeekdayOf", spec := "fnExactWeekdayOf", apart := false, narrowed := true }
def FnExactWeekdayOfUptoSaid : Prop := fnExactWeekdayOfUptoRow.holds Try.pinned (OpenSpec.upto fnExactWeekdayOfSpec)

/-- 'laws.FnExactRootOf', WHERE WHAT IT READS IS OF BULK AT MOST 1048576: true; the input reads as it did. -/
def fnExactRootOfUptoRow : OpenClaim := { program := "ytmpjoigmjablpaa", sum := "612253379531fb0a824f3396e4159f62795ca47aabd120bba726a730a462d6b9", func := "loop.example/g01057/laws.FnExactRootOf", spec := "fnExactRootOf", apart := false, narrowed := true }
def FnExactRootOfUptoSaid : Prop := fnExactRootOfUptoRow.holds Try.pinned (OpenSpec.upto fnExactRootOfSpec)

/-- 'laws.FnExactIsName', WHERE WHAT IT READS IS OF BULK AT MOST 1048576: true; the input reads as it did. -/
def fnExactIsNameUptoRow : OpenClaim := { program := "ytmpjoigmjablpaa", sum := "612253379531fb0a824f3396e4159f62795ca47aabd120bba726a730a462d6b9", func := "loop.example/g01057/laws.FnExactIsName", spec := "fnExactIsName", apart := false, narrowed := true }
def FnExactIsNameUptoSaid : Prop := fnExactIsNameUptoRow.holds Try.pinned (OpenSpec.upto fnExactIsNameSpec)

/-- 'laws.FnExactWorkDays', WHERE WHAT IT READS IS OF BULK AT MOST 1048576: true; the input reads as it did. -/
def fnExactWorkDaysUptoRow : OpenClaim := { program := "ytmpjoigmjablpaa", sum := "612253379531fb0a824f3396e4159f62795ca47aabd120bba726a730a462d6b9", func := "loop.example/g01057/laws.FnExactWorkDays", spec := "fnExactWorkDays", apart := false, narrowed := true }
def FnExactWorkDaysUptoSaid : Prop := fnExactWorkDaysUptoRow.holds Try.pinned (OpenSpec.upto fnExactWorkDaysSpec)

/-- 'laws.FnExactCrc16', WHERE WHAT IT READS IS OF BULK AT MOST 1048576: true; the input reads as it did. -/
def fnExactCrc16UptoRow : OpenClaim := { program := "ytmpjoigmjablpaa", sum := "612253379531fb0a824f3396e4159f62795ca47aabd120bba726a730a462d6b9", func := "loop.example/g01057/laws.FnExactCrc16", spec := "fnExactCrc16", apart := false, narrowed := true }
def FnExactCrc16UptoSaid : Prop := fnExactCrc16UptoRow.holds Try.pinned (OpenSpec.upto fnExactCrc16Spec)

/-- 'laws.FnExactDivRound', WHERE WHAT IT READS IS OF BULK AT MOST 1048576: true; the input reads as it did. -/
def fnExactDivRoundUptoRow : OpenClaim := { program := "ytmpjoigmjablpaa", sum := "612253379531fb0a824f3396e4159f62795ca47aabd120bba726a730a462d6b9", func := "loop.example/g01057/laws.FnExactDivRound", spec := "fnExactDivRound", apart := false, narrowed := true }
def FnExactDivRoundUptoSaid : Prop := fnExactDivRoundUptoRow.holds Try.pinned (OpenSpec.upto fnExactDivRoundSpec)

/-- 'laws.FnExactHourSpeed', WHERE WHAT IT READS IS OF BULK AT MOST 1048576: true; the input reads as it did. -/
def fnExactHourSpeedUptoRow : OpenClaim := { program := "ytmpjoigmjablpaa", sum := "612253379531fb0a824f3396e4159f62795ca47aabd120bba726a730a462d6b9", func := "loop.example/g01057/laws.FnExactHourSpeed", spec := "fnExactHourSpeed", apart := false, narrowed := true }
def FnExactHourSpeedUptoSaid : Prop := fnExactHourSpeedUptoRow.holds Try.pinned (OpenSpec.upto fnExactHourSpeedSpec)

/-- 'laws.FnExactDayNumber', WHERE WHAT IT READS IS OF BULK AT MOST 1048576: true; the input reads as it did. -/
def fnExactDayNumberUptoRow : OpenClaim := { program := "ytmpjoigmjablpaa", sum := "612253379531fb0a824f3396e4159f62795ca47aabd120bba726a730a462d6b9", func := "loop.example/g01057/laws.FnExactDayNumber", spec := "fnExactDayNumber", apart := false, narrowed := true }
def FnExactDayNumberUptoSaid : Prop := fnExactDayNumberUptoRow.holds Try.pinned (OpenSpec.upto fnExactDayNumberSpec)

/-- 'laws.FnExactBlend', WHERE WHAT IT READS IS OF BULK AT MOST 1048576: true; the input reads as it did. -/
def fnExactBlendUptoRow : OpenClaim := { program := "ytmpjoigmjablpaa", sum := "612253379531fb0a824f3396e4159f62795ca47aabd120bba726a730a462d6b9", func := "loop.example/g01057/laws.FnExactBlend", spec := "fnExactBlend", apart := false, narrowed := true }
def FnExactBlendUptoSaid : Prop := fnExactBlendUptoRow.holds Try.pinned (OpenSpec.upto fnExactBlendSpec)

/-- 'laws.FnExactDateOf', WHERE WHAT IT READS IS OF BULK AT MOST 1048576: true; the input reads as it did. -/
def fnExactDateOfUptoRow : OpenClaim := { program := "ytmpjoigmjablpaa", sum := "612253379531fb0a824f3396e4159f62795ca47aabd120bba726a730a462d6b9", func := "loop.example/g01057/laws.FnExactDateOf", spec := "fnExactDateOf", apart := false, narrowed := true }
def FnExactDateOfUptoSaid : Prop := fnExactDateOfUptoRow.holds Try.pinned (OpenSpec.upto fnExactDateOfSpec)

/-- 'laws.FnExactLeastRadius', WHERE WHAT IT READS IS OF BULK AT MOST 1048576: true; the input reads as it did. -/
def fnExactLeastRadiusUptoRow : OpenClaim := { program := "ytmpjoigmjablpaa", sum := "612253379531fb0a824f3396e4159f62795ca47aabd120bba726a730a462d6b9", func := "loop.example/g01057/laws.FnExactLeastRadius", spec := "fnExactLeastRadius", unfollowed := true, recurses := true, apart := false, narrowed := true }
def FnExactLeastRadiusUptoSaid : Prop := fnExactLeastRadiusUptoRow.holds Try.pinned (OpenSpec.upto fnExactLeastRadiusSpec)

end Rows
end Go.Proofs.Ytmpjoigmjablpaa

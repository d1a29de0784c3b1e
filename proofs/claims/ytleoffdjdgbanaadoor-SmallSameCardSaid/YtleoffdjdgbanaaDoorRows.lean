/-
  NARROWER THAN 'FOR EVERY INPUT', by the rows' own cells (each row's printed sentence says how): PutBack: laid · ChangeDeletes: laid · ChangeChanges: laid · ChangeYanks: laid · ChangeShifts: laid · ChangeCases: laid · ChangeStays: laid · OperLower: laid · OperUpper: laid · OperTurn: laid · OperRight: laid · OperLeft: laid · SmallTurns: laid · SmallJoins: laid · SmallSame: laid · SmallX: laid · SmallR: laid · SmallTilde: laid.
  DERIVED. THE GIVEN ROWS OF THIS SEAT. 18 by the template 'for every input the law returns true; each argument reads behind the call as it read before'; 0 by the template 'total and deterministic' (their statements: YtleoffdjdgbanaaDoorTotals.lean).
  GIVEN WITH THE SEED: the statements are not yours to turn. If you find one false, say at which input.
  Laid BY PROGRAM, IN A SANDBOX (cutbox-rows.mjs): the forced cells as the released guide's own fill.sh prints them over the translation 6d5f0cab4c8e7863… (all of the seat's roots in one cut). By AI agents, Wed Nov 11 2026. No macro, syntax, notation, axiom, sorry.
-/
import Derived.Test.YtleoffdjdgbanaaDoorChecked
import GoSem.PinnedTables
import GoSem.Claim
import GoSem.ClaimJoined
import GoSem.ClaimMapViews
import Derived.JoinedTies
import Derived.KernelRfl
namespace Go.Proofs.YtleoffdjdgbanaaDoor
/- THE CELL 'sum', in the pinned program and in every row, IS THE sha256 OF THE DUMP (.gsa) THAT YtleoffdjdgbanaaDoorProg.lean LOADS. Nothing in Lean hashes anything: it is a label: what it is worth is what the hold of that sum in a sandbox is worth. -/
noncomputable def Tryd.pinned : Pinned := { name := "ytleoffdjdgbanaadoor", sum := "6d5f0cab4c8e7863775b135a2537646ef9cc5e006792d099bd72c74eb5aca335", checked := Tryd.checked }
namespace Rows
def none {H : Type} : Left H := { results := [], args := [] }

/- WHAT THE LISTED PACKAGE-LEVEL VARIABLES READ AS WHEN THE CALL BEGINS. Each datum BY PROGRAM (the guide's laid-datum.mjs) off the statement by which the dump's own 'gosem.cut.vars' lays the variable. In a bare row this is a premise. The card (YtleoffdjdgbanaaDoorCards.lean) ties it to the program's text. -/
def laid_unicode_utf8_acceptRanges {H : Type} : DataW H := .agg [.agg [.lit (.int .u8 128), .lit (.int .u8 191)], .agg [.lit (.int .u8 160), .lit (.int .u8 191)], .agg [.lit (.int .u8 128), .lit (.int .u8 159)], .agg [.lit (.int .u8 144), .lit (.int .u8 191)], .agg [.lit (.int .u8 128), .lit (.int .u8 143)], .agg [.lit (.int .u8 0), .lit (.int .u8 0)], .agg [.lit (.int .u8 0), .lit (.int .u8 0)], .agg [.lit (.int .u8 0), .lit (.int .u8 0)], .agg [.lit (.int .u8 0), .lit (.int .u8 0)], .agg [.lit (.int .u8 0), .lit (.int .u8 0)], .agg [.lit (.int .u8 0), .lit (.int .u8 0)], .agg [.lit (.int .u8 0), .lit (.int .u8 0)], .agg [.lit (.int .u8 0), .lit (.int .u8 0)], .agg [.lit (.int .u8 0), .lit (.int .u8 0)], .agg [.lit (.int .u8 0), .lit (.int .u8 0)], .agg [.lit (.int .u8 0), .lit (.int .u8 0)]]
/-- One of Go's own tables, pinned by name: the form's constant. -/
def laid_unicode_utf8_first : DataW Unit := Go.Pinned.utf8First
def laid_unicode_properties {H : Type} : DataW H := .agg [.lit (.int .u8 1), .lit (.int .u8 1), .lit (.int .u8 1), .lit (.int .u8 1), .lit (.int .u8 1), .lit (.int .u8 1), .lit (.int .u8 1), .lit (.int .u8 1), .lit (.int .u8 1), .lit (.int .u8 1), .lit (.int .u8 1), .lit (.int .u8 1), .lit (.int .u8 1), .lit (.int .u8 1), .lit (.int .u8 1), .lit (.int .u8 1), .lit (.int .u8 1), .lit (.int .u8 1), .lit (.int .u8 1), .lit (.int .u8 1), .lit (.int .u8 1), .lit (.int .u8 1), .lit (.int .u8 1), .lit (.int .u8 1), .lit (.int .u8 1), .lit (.int .u8 1), .lit (.int .u8 1), .lit (.int .u8 1), .lit (.int .u8 1), .lit (.int .u8 1), .lit (.int .u8 1), .lit (.int .u8 1), .lit (.int .u8 144), .lit (.int .u8 130), .lit (.int .u8 130), .lit (.int .u8 130), .lit (.int .u8 136), .lit (.int .u8 130), .lit (.int .u8 130), .lit (.int .u8 130), .lit (.int .u8 130), .lit (.int .u8 130), .lit (.int .u8 130), .lit (.int .u8 136), .lit (.int .u8 130), .lit (.int .u8 130), .lit (.int .u8 130), .lit (.int .u8 130), .lit (.int .u8 132), .lit (.int .u8 132), .lit (.int .u8 132), .lit (.int .u8 132), .lit (.int .u8 132), .lit (.int .u8 132), .lit (.int .u8 132), .lit (.int .u8 132), .lit (.int .u8 132), .lit (.int .u8 132), .lit (.int .u8 130), .lit (.int .u8 130), .lit (.int .u8 136), .lit (.int .u8 136), .lit (.int .u8 136), .lit (.int .u8 130), .lit (.int .u8 130), .lit (.int .u8 160), .lit (.int .u8 160), .lit (.int .u8 160), .lit (.int .u8 160), .lit (.int .u8 160), .lit (.int .u8 160), .lit (.int .u8 160), .lit (.int .u8 160), .lit (.int .u8 160), .lit (.int .u8 160), .lit (.int .u8 160), .lit (.int .u8 160), .lit (.int .u8 160), .lit (.int .u8 160), .lit (.int .u8 160), .lit (.int .u8 160), .lit (.int .u8 160), .lit (.int .u8 160), .lit (.int .u8 160), .lit (.int .u8 160), .lit (.int .u8 160), .lit (.int .u8 160), .lit (.int .u8 160), .lit (.int .u8 160), .lit (.int .u8 160), .lit (.int .u8 160), .lit (.int .u8 130), .lit (.int .u8 130), .lit (.int .u8 130), .lit (.int .u8 136), .lit (.int .u8 130), .lit (.int .u8 136), .lit (.int .u8 192), .lit (.int .u8 192), .lit (.int .u8 192), .lit (.int .u8 192), .lit (.int .u8 192), .lit (.int .u8 192), .lit (.int .u8 192), .lit (.int .u8 192), .lit (.int .u8 192), .lit (.int .u8 192), .lit (.int .u8 192), .lit (.int .u8 192), .lit (.int .u8 192), .lit (.int .u8 192), .lit (.int .u8 192), .lit (.int .u8 192), .lit (.int .u8 192), .lit (.int .u8 192), .lit (.int .u8 192), .lit (.int .u8 192), .lit (.int .u8 192), .lit (.int .u8 192), .lit (.int .u8 192), .lit (.int .u8 192), .lit (.int .u8 192), .lit (.int .u8 192), .lit (.int .u8 130), .lit (.int .u8 136), .lit (.int .u8 130), .lit (.int .u8 136), .lit (.int .u8 1), .lit (.int .u8 1), .lit (.int .u8 1), .lit (.int .u8 1), .lit (.int .u8 1), .lit (.int .u8 1), .lit (.int .u8 1), .lit (.int .u8 1), .lit (.int .u8 1), .lit (.int .u8 1), .lit (.int .u8 1), .lit (.int .u8 1), .lit (.int .u8 1), .lit (.int .u8 1), .lit (.int .u8 1), .lit (.int .u8 1), .lit (.int .u8 1), .lit (.int .u8 1), .lit (.int .u8 1), .lit (.int .u8 1), .lit (.int .u8 1), .lit (.int .u8 1), .lit (.int .u8 1), .lit (.int .u8 1), .lit (.int .u8 1), .lit (.int .u8 1), .lit (.int .u8 1), .lit (.int .u8 1), .lit (.int .u8 1), .lit (.int .u8 1), .lit (.int .u8 1), .lit (.int .u8 1), .lit (.int .u8 1), .lit (.int .u8 16), .lit (.int .u8 130), .lit (.int .u8 136), .lit (.int .u8 136), .lit (.int .u8 136), .lit (.int .u8 136), .lit (.int .u8 136), .lit (.int .u8 130), .lit (.int .u8 136), .lit (.int .u8 136), .lit (.int .u8 224), .lit (.int .u8 130), .lit (.int .u8 136), .lit (.int .u8 0), .lit (.int .u8 136), .lit (.int .u8 136), .lit (.int .u8 136), .lit (.int .u8 136), .lit (.int .u8 132), .lit (.int .u8 132), .lit (.int .u8 136), .lit (.int .u8 192), .lit (.int .u8 130), .lit (.int .u8 130), .lit (.int .u8 136), .lit (.int .u8 132), .lit (.int .u8 224), .lit (.int .u8 130), .lit (.int .u8 132), .lit (.int .u8 132), .lit (.int .u8 132), .lit (.int .u8 130), .lit (.int .u8 160), .lit (.int .u8 160), .lit (.int .u8 160), .lit (.int .u8 160), .lit (.int .u8 160), .lit (.int .u8 160), .lit (.int .u8 160), .lit (.int .u8 160), .lit (.int .u8 160), .lit (.int .u8 160), .lit (.int .u8 160), .lit (.int .u8 160), .lit (.int .u8 160), .lit (.int .u8 160), .lit (.int .u8 160), .lit (.int .u8 160), .lit (.int .u8 160), .lit (.int .u8 160), .lit (.int .u8 160), .lit (.int .u8 160), .lit (.int .u8 160), .lit (.int .u8 160), .lit (.int .u8 160), .lit (.int .u8 136), .lit (.int .u8 160), .lit (.int .u8 160), .lit (.int .u8 160), .lit (.int .u8 160), .lit (.int .u8 160), .lit (.int .u8 160), .lit (.int .u8 160), .lit (.int .u8 192), .lit (.int .u8 192), .lit (.int .u8 192), .lit (.int .u8 192), .lit (.int .u8 192), .lit (.int .u8 192), .lit (.int .u8 192), .lit (.int .u8 192), .lit (.int .u8 192), .lit (.int .u8 192), .lit (.int .u8 192), .lit (.int .u8 192), .lit (.int .u8 192), .lit (.int .u8 192), .lit (.int .u8 192), .lit (.int .u8 192), .lit (.int .u8 192), .lit (.int .u8 192), .lit (.int .u8 192), .lit (.int .u8 192), .lit (.int .u8 192), .lit (.int .u8 192), .lit (.int .u8 192), .lit (.int .u8 192), .lit (.int .u8 136), .lit (.int .u8 192), .lit (.int .u8 192), .lit (.int .u8 192), .lit (.int .u8 192), .lit (.int .u8 192), .lit (.int .u8 192), .lit (.int .u8 192), .lit (.int .u8 192)]
/-- One of Go's own tables, pinned by name: the form's constant. -/
def laid_unicode_CaseRanges : DataW Unit := Go.Pinned.caseRanges
/-- One of Go's own tables, pinned by name: the form's constant. -/
def laid_unicode_Upper : DataW Unit := Go.Pinned.upper

/-- 'quilllaw19.PutBack': WHATEVER THE INPUT: true; the input reads as it did. -/
def putBackSpec : ChangeSpec := { name := "putBack", fn := fun _ => fun
  | [d] => { results := [.lit (.bool true)], args := [d] }
  | _ => none }
def putBackRow : OpenClaim := { program := "ytleoffdjdgbanaadoor", sum := "6d5f0cab4c8e7863775b135a2537646ef9cc5e006792d099bd72c74eb5aca335", func := "quill/quilllaw19.PutBack", spec := "putBack", inPlace := ["internal/bytealg.IndexByteString", "internal/abi.NoEscape", "internal/bytealg.MakeNoZero", "internal/bytealg.IndexString"], named := ["unicode/utf8.first", "unicode/utf8.acceptRanges", "internal/bytealg.MaxLen"], apart := false, laid := [("unicode/utf8.acceptRanges", laid_unicode_utf8_acceptRanges), ("unicode/utf8.first", laid_unicode_utf8_first)] }
def PutBackSaid : Prop := putBackRow.holds Tryd.pinned (OpenSpec.ofChange putBackSpec)

/-- ITS FALSE NEIGHBOUR: 'it returns false'. Refute it at one input. -/
def putBackWrong : ChangeSpec := { name := "putBack", fn := fun _ => fun
  | [d] => { results := [.lit (.bool false)], args := [d] }
  | _ => none }
def PutBackWrongFalsely : Prop := putBackRow.holds Tryd.pinned (OpenSpec.ofChange putBackWrong)

/-- 'quilllaw18.ChangeDeletes': WHATEVER THE INPUT: true; the input reads as it did. -/
def changeDeletesSpec : ChangeSpec := { name := "changeDeletes", fn := fun _ => fun
  | [d] => { results := [.lit (.bool true)], args := [d] }
  | _ => none }
def changeDeletesRow : OpenClaim := { program := "ytleoffdjdgbanaadoor", sum := "6d5f0cab4c8e7863775b135a2537646ef9cc5e006792d099bd72c74eb5aca335", func := "quill/quilllaw18.ChangeDeletes", spec := "changeDeletes", inPlace := ["internal/bytealg.IndexByteString", "internal/bytealg.CountString", "internal/bytealg.IndexString", "internal/abi.NoEscape", "internal/bytealg.MakeNoZero"], named := ["unicode/utf8.first", "unicode/utf8.acceptRanges", "internal/bytealg.MaxLen", "unicode.properties", "unicode.Upper", "unicode.CaseRanges"], apart := false, laid := [("unicode/utf8.acceptRanges", laid_unicode_utf8_acceptRanges), ("unicode.properties", laid_unicode_properties), ("unicode.CaseRanges", laid_unicode_CaseRanges), ("unicode.Upper", laid_unicode_Upper), ("unicode/utf8.first", laid_unicode_utf8_first)] }
def ChangeDeletesSaid : Prop := changeDeletesRow.holds Tryd.pinned (OpenSpec.ofChange changeDeletesSpec)

/-- ITS FALSE NEIGHBOUR: 'it returns false'. Refute it at one input. -/
def changeDeletesWrong : ChangeSpec := { name := "changeDeletes", fn := fun _ => fun
  | [d] => { results := [.lit (.bool false)], args := [d] }
  | _ => none }
def ChangeDeletesWrongFalsely : Prop := changeDeletesRow.holds Tryd.pinned (OpenSpec.ofChange changeDeletesWrong)

/-- 'quilllaw18.ChangeChanges': WHATEVER THE INPUT: true; the input reads as it did. -/
def changeChangesSpec : ChangeSpec := { name := "changeChanges", fn := fun _ => fun
  | [d] => { results := [.lit (.bool true)], args := [d] }
  | _ => none }
def changeChangesRow : OpenClaim := { program := "ytleoffdjdgbanaadoor", sum := "6d5f0cab4c8e7863775b135a2537646ef9cc5e006792d099bd72c74eb5aca335", func := "quill/quilllaw18.ChangeChanges", spec := "changeChanges", inPlace := ["internal/bytealg.IndexByteString", "internal/bytealg.CountString", "internal/bytealg.IndexString", "internal/abi.NoEscape", "internal/bytealg.MakeNoZero"], named := ["unicode/utf8.first", "unicode/utf8.acceptRanges", "internal/bytealg.MaxLen", "unicode.properties", "unicode.Upper", "unicode.CaseRanges"], apart := false, laid := [("unicode/utf8.acceptRanges", laid_unicode_utf8_acceptRanges), ("unicode.properties", laid_unicode_properties), ("unicode.CaseRanges", laid_unicode_CaseRanges), ("unicode.Upper", laid_unicode_Upper), ("unicode/utf8.first", laid_unicode_utf8_first)] }
def ChangeChangesSaid : Prop := changeChangesRow.holds Tryd.pinned (OpenSpec.ofChange changeChangesSpec)

/-- ITS FALSE NEIGHBOUR: 'it returns false'. Refute it at one input. -/
def changeChangesWrong : ChangeSpec := { name := "changeChanges", fn := fun _ => fun
  | [d] => { results := [.lit (.bool false)], args := [d] }
  | _ => none }
def ChangeChangesWrongFalsely : Prop := changeChangesRow.holds Tryd.pinned (OpenSpec.ofChange changeChangesWrong)

/-- 'quilllaw18.ChangeYanks': WHATEVER THE INPUT: true; the input reads as it did. -/
def changeYanksSpec : ChangeSpec := { name := "changeYanks", fn := fun _ => fun
  | [d] => { results := [.lit (.bool true)], args := [d] }
  | _ => none }
def changeYanksRow : OpenClaim := { program := "ytleoffdjdgbanaadoor", sum := "6d5f0cab4c8e7863775b135a2537646ef9cc5e006792d099bd72c74eb5aca335", func := "quill/quilllaw18.ChangeYanks", spec := "changeYanks", inPlace := ["internal/bytealg.IndexByteString", "internal/bytealg.CountString", "internal/bytealg.IndexString", "internal/abi.NoEscape", "internal/bytealg.MakeNoZero"], named := ["unicode/utf8.first", "unicode/utf8.acceptRanges", "internal/bytealg.MaxLen", "unicode.properties", "unicode.Upper", "unicode.CaseRanges"], apart := false, laid := [("unicode/utf8.acceptRanges", laid_unicode_utf8_acceptRanges), ("unicode.properties", laid_unicode_properties), ("unicode.CaseRanges", laid_unicode_CaseRanges), ("unicode.Upper", laid_unicode_Upper), ("unicode/utf8.first", laid_unicode_utf8_first)] }
def ChangeYanksSaid : Prop := changeYanksRow.holds Tryd.pinned (OpenSpec.ofChange changeYanksSpec)

/-- ITS FALSE NEIGHBOUR: 'it returns false'. Refute it at one input. -/
def changeYanksWrong : ChangeSpec := { name := "changeYanks", fn := fun _ => fun
  | [d] => { results := [.lit (.bool false)], args := [d] }
  | _ => none }
def ChangeYanksWrongFalsely : Prop := changeYanksRow.holds Tryd.pinned (OpenSpec.ofChange changeYanksWrong)

/-- 'quilllaw18.ChangeShifts': WHATEVER THE INPUT: true; the input reads as it did. -/
def changeShiftsSpec : ChangeSpec := { name := "changeShifts", fn := fun _ => fun
  | [d] => { results := [.lit (.bool true)], args := [d] }
  | _ => none }
def changeShiftsRow : OpenClaim := { program := "ytleoffdjdgbanaadoor", sum := "6d5f0cab4c8e7863775b135a2537646ef9cc5e006792d099bd72c74eb5aca335", func := "quill/quilllaw18.ChangeShifts", spec := "changeShifts", inPlace := ["internal/bytealg.IndexByteString", "internal/bytealg.CountString", "internal/bytealg.IndexString", "internal/abi.NoEscape", "internal/bytealg.MakeNoZero"], named := ["unicode/utf8.first", "unicode/utf8.acceptRanges", "internal/bytealg.MaxLen", "unicode.properties", "unicode.Upper", "unicode.CaseRanges"], apart := false, laid := [("unicode/utf8.acceptRanges", laid_unicode_utf8_acceptRanges), ("unicode.properties", laid_unicode_properties), ("unicode.CaseRanges", laid_unicode_CaseRanges), ("unicode.Upper", laid_unicode_Upper), ("unicode/utf8.first", laid_unicode_utf8_first)] }
def ChangeShiftsSaid : Prop := changeShiftsRow.holds Tryd.pinned (OpenSpec.ofChange changeShiftsSpec)

/-- ITS FALSE NEIGHBOUR: 'it returns false'. Refute it at one input. -/
def changeShiftsWrong : ChangeSpec := { name := "changeShifts", fn := fun _ => fun
  | [d] => { results := [.lit (.bool false)], args := [d] }
  | _ => none }
def ChangeShiftsWrongFalsely : Prop := changeShiftsRow.holds Tryd.pinned (OpenSpec.ofChange changeShiftsWrong)

/-- 'quilllaw18.ChangeCases': WHATEVER THE INPUT: true; the input reads as it did. -/
def changeCasesSpec : ChangeSpec := { name := "changeCases", fn := fun _ => fun
  | [d] => { results := [.lit (.bool true)], args := [d] }
  | _ => none }
def changeCasesRow : OpenClaim := { program := "ytleoffdjdgbanaadoor", sum := "6d5f0cab4c8e7863775b135a2537646ef9cc5e006792d099bd72c74eb5aca335", func := "quill/quilllaw18.ChangeCases", spec := "changeCases", inPlace := ["internal/bytealg.IndexByteString", "internal/bytealg.CountString", "internal/bytealg.IndexString", "internal/abi.NoEscape", "internal/bytealg.MakeNoZero"], named := ["unicode/utf8.first", "unicode/utf8.acceptRanges", "internal/bytealg.MaxLen", "unicode.properties", "unicode.Upper", "unicode.CaseRanges"], apart := false, laid := [("unicode/utf8.acceptRanges", laid_unicode_utf8_acceptRanges), ("unicode.properties", laid_unicode_properties), ("unicode.CaseRanges", laid_unicode_CaseRanges), ("unicode.Upper", laid_unicode_Upper), ("unicode/utf8.first", laid_unicode_utf8_first)] }
def ChangeCasesSaid : Prop := changeCasesRow.holds Tryd.pinned (OpenSpec.ofChange changeCasesSpec)

/-- ITS FALSE NEIGHBOUR: 'it returns false'. Refute it at one input. -/
def changeCasesWrong : ChangeSpec := { name := "changeCases", fn := fun _ => fun
  | [d] => { results := [.lit (.bool false)], args := [d] }
  | _ => none }
def ChangeCasesWrongFalsely : Prop := changeCasesRow.holds Tryd.pinned (OpenSpec.ofChange changeCasesWrong)

/-- 'quilllaw18.ChangeStays': WHATEVER THE INPUT: true; the input reads as it did. -/
def changeStaysSpec : ChangeSpec := { name := "changeStays", fn := fun _ => fun
  | [d] => { results := [.lit (.bool true)], args := [d] }
  | _ => none }
def changeStaysRow : OpenClaim := { program := "ytleoffdjdgbanaadoor", sum := "6d5f0cab4c8e7863775b135a2537646ef9cc5e006792d099bd72c74eb5aca335", func := "quill/quilllaw18.ChangeStays", spec := "changeStays", inPlace := ["internal/bytealg.IndexByteString", "internal/bytealg.CountString", "internal/bytealg.IndexString", "internal/abi.NoEscape", "internal/bytealg.MakeNoZero"], named := ["unicode/utf8.first", "unicode/utf8.acceptRanges", "internal/bytealg.MaxLen", "unicode.properties", "unicode.Upper", "unicode.CaseRanges"], apart := false, laid := [("unicode/utf8.acceptRanges", laid_unicode_utf8_acceptRanges), ("unicode.properties", laid_unicode_properties), ("unicode.CaseRanges", laid_unicode_CaseRanges), ("unicode.Upper", laid_unicode_Upper), ("unicode/utf8.first", laid_unicode_utf8_first)] }
def ChangeStaysSaid : Prop := changeStaysRow.holds Tryd.pinned (OpenSpec.ofChange changeStaysSpec)

/-- ITS FALSE NEIGHBOUR: 'it returns false'. Refute it at one input. -/
def changeStaysWrong : ChangeSpec := { name := "changeStays", fn := fun _ => fun
  | [d] => { results := [.lit (.bool false)], args := [d] }
  | _ => none }
def ChangeStaysWrongFalsely : Prop := changeStaysRow.holds Tryd.pinned (OpenSpec.ofChange changeStaysWrong)

/-- 'quilllaw18.OperLower': WHATEVER THE INPUT: true; the input reads as it did. -/
def operLowerSpec : ChangeSpec := { name := "operLower", fn := fun _ => fun
  | [d] => { results := [.lit (.bool true)], args := [d] }
  | _ => none }
def operLowerRow : OpenClaim := { program := "ytleoffdjdgbanaadoor", sum := "6d5f0cab4c8e7863775b135a2537646ef9cc5e006792d099bd72c74eb5aca335", func := "quill/quilllaw18.OperLower", spec := "operLower", inPlace := ["internal/bytealg.IndexByteString", "internal/bytealg.CountString", "internal/bytealg.IndexString", "internal/abi.NoEscape", "internal/bytealg.MakeNoZero"], named := ["unicode/utf8.first", "unicode/utf8.acceptRanges", "internal/bytealg.MaxLen", "unicode.properties", "unicode.Upper", "unicode.CaseRanges"], apart := false, laid := [("unicode/utf8.acceptRanges", laid_unicode_utf8_acceptRanges), ("unicode.properties", laid_unicode_properties), ("unicode.CaseRanges", laid_unicode_CaseRanges), ("unicode.Upper", laid_unicode_Upper), ("unicode/utf8.first", laid_unicode_utf8_first)] }
def OperLowerSaid : Prop := operLowerRow.holds Tryd.pinned (OpenSpec.ofChange operLowerSpec)

/-- ITS FALSE NEIGHBOUR: 'it returns false'. Refute it at one input. -/
def operLowerWrong : ChangeSpec := { name := "operLower", fn := fun _ => fun
  | [d] => { results := [.lit (.bool false)], args := [d] }
  | _ => none }
def OperLowerWrongFalsely : Prop := operLowerRow.holds Tryd.pinned (OpenSpec.ofChange operLowerWrong)

/-- 'quilllaw18.OperUpper': WHATEVER THE INPUT: true; the input reads as it did. -/
def operUpperSpec : ChangeSpec := { name := "operUpper", fn := fun _ => fun
  | [d] => { results := [.lit (.bool true)], args := [d] }
  | _ => none }
def operUpperRow : OpenClaim := { program := "ytleoffdjdgbanaadoor", sum := "6d5f0cab4c8e7863775b135a2537646ef9cc5e006792d099bd72c74eb5aca335", func := "quill/quilllaw18.OperUpper", spec := "operUpper", inPlace := ["internal/bytealg.IndexByteString", "internal/bytealg.CountString", "internal/bytealg.IndexString", "internal/abi.NoEscape", "internal/bytealg.MakeNoZero"], named := ["unicode/utf8.first", "unicode/utf8.acceptRanges", "internal/bytealg.MaxLen", "unicode.properties", "unicode.Upper", "unicode.CaseRanges"], apart := false, laid := [("unicode/utf8.acceptRanges", laid_unicode_utf8_acceptRanges), ("unicode.properties", laid_unicode_properties), ("unicode.CaseRanges", laid_unicode_CaseRanges), ("unicode.Upper", laid_unicode_Upper), ("unicode/utf8.first", laid_unicode_utf8_first)] }
def OperUpperSaid : Prop := operUpperRow.holds Tryd.pinned (OpenSpec.ofChange operUpperSpec)

/-- ITS FALSE NEIGHBOUR: 'it returns false'. Refute it at one input. -/
def operUpperWrong : ChangeSpec := { name := "operUpper", fn := fun _ => fun
  | [d] => { results := [.lit (.bool false)], args := [d] }
  | _ => none }
def OperUpperWrongFalsely : Prop := operUpperRow.holds Tryd.pinned (OpenSpec.ofChange operUpperWrong)

/-- 'quilllaw18.OperTurn': WHATEVER THE INPUT: true; the input reads as it did. -/
def operTurnSpec : ChangeSpec := { name := "operTurn", fn := fun _ => fun
  | [d] => { results := [.lit (.bool true)], args := [d] }
  | _ => none }
def operTurnRow : OpenClaim := { program := "ytleoffdjdgbanaadoor", sum := "6d5f0cab4c8e7863775b135a2537646ef9cc5e006792d099bd72c74eb5aca335", func := "quill/quilllaw18.OperTurn", spec := "operTurn", inPlace := ["internal/bytealg.IndexByteString", "internal/bytealg.CountString", "internal/bytealg.IndexString", "internal/abi.NoEscape", "internal/bytealg.MakeNoZero"], named := ["unicode/utf8.first", "unicode/utf8.acceptRanges", "internal/bytealg.MaxLen", "unicode.properties", "unicode.Upper", "unicode.CaseRanges"], apart := false, laid := [("unicode/utf8.acceptRanges", laid_unicode_utf8_acceptRanges), ("unicode.properties", laid_unicode_properties), ("unicode.CaseRanges", laid_unicode_CaseRanges), ("unicode.Upper", laid_unicode_Upper), ("unicode/utf8.first", laid_unicode_utf8_first)] }
def OperTurnSaid : Prop := operTurnRow.holds Tryd.pinned (OpenSpec.ofChange operTurnSpec)

/-- ITS FALSE NEIGHBOUR: 'it returns false'. Refute it at one input. -/
def operTurnWrong : ChangeSpec := { name := "operTurn", fn := fun _ => fun
  | [d] => { results := [.lit (.bool false)], args := [d] }
  | _ => none }
def OperTurnWrongFalsely : Prop := operTurnRow.holds Tryd.pinned (OpenSpec.ofChange operTurnWrong)

/-- 'quilllaw18.OperRight': WHATEVER THE INPUT: true; the input reads as it did. -/
def operRightSpec : ChangeSpec := { name := "operRight", fn := fun _ => fun
  | [d] => { results := [.lit (.bool true)], args := [d] }
  | _ => none }
def operRightRow : OpenClaim := { program := "ytleoffdjdgbanaadoor", sum := "6d5f0cab4c8e7863775b135a2537646ef9cc5e006792d099bd72c74eb5aca335", func := "quill/quilllaw18.OperRight", spec := "operRight", inPlace := ["internal/bytealg.IndexByteString", "internal/bytealg.CountString", "internal/bytealg.IndexString", "internal/abi.NoEscape", "internal/bytealg.MakeNoZero"], named := ["unicode/utf8.first", "unicode/utf8.acceptRanges", "internal/bytealg.MaxLen", "unicode.properties", "unicode.Upper", "unicode.CaseRanges"], apart := false, laid := [("unicode/utf8.acceptRanges", laid_unicode_utf8_acceptRanges), ("unicode.properties", laid_unicode_properties), ("unicode.CaseRanges", laid_unicode_CaseRanges), ("unicode.Upper", laid_unicode_Upper), ("unicode/utf8.first", laid_unicode_utf8_first)] }
def OperRightSaid : Prop := operRightRow.holds Tryd.pinned (OpenSpec.ofChange operRightSpec)

/-- ITS FALSE NEIGHBOUR: 'it returns false'. Refute it at one input. -/
def operRightWrong : ChangeSpec := { name := "operRight", fn := fun _ => fun
  | [d] => { results := [.lit (.bool false)], args := [d] }
  | _ => none }
def OperRightWrongFalsely : Prop := operRightRow.holds Tryd.pinned (OpenSpec.ofChange operRightWrong)

/-- 'quilllaw18.OperLeft': WHATEVER THE INPUT: true; the input reads as it did. -/
def operLeftSpec : ChangeSpec := { name := "operLeft", fn := fun _ => fun
  | [d] => { results := [.lit (.bool true)], args := [d] }
  | _ => none }
def operLeftRow : OpenClaim := { program := "ytleoffdjdgbanaadoor", sum := "6d5f0cab4c8e7863775b135a2537646ef9cc5e006792d099bd72c74eb5aca335", func := "quill/quilllaw18.OperLeft", spec := "operLeft", inPlace := ["internal/bytealg.IndexByteString", "internal/bytealg.CountString", "internal/bytealg.IndexString", "internal/abi.NoEscape", "internal/bytealg.MakeNoZero"], named := ["unicode/utf8.first", "unicode/utf8.acceptRanges", "internal/bytealg.MaxLen", "unicode.properties", "unicode.Upper", "unicode.CaseRanges"], apart := false, laid := [("unicode/utf8.acceptRanges", laid_unicode_utf8_acceptRanges), ("unicode.properties", laid_unicode_properties), ("unicode.CaseRanges", laid_unicode_CaseRanges), ("unicode.Upper", laid_unicode_Upper), ("unicode/utf8.first", laid_unicode_utf8_first)] }
def OperLeftSaid : Prop := operLeftRow.holds Tryd.pinned (OpenSpec.ofChange operLeftSpec)

/-- ITS FALSE NEIGHBOUR: 'it returns false'. Refute it at one input. -/
def operLeftWrong : ChangeSpec := { name := "operLeft", fn := fun _ => fun
  | [d] => { results := [.lit (.bool false)], args := [d] }
  | _ => none }
def OperLeftWrongFalsely : Prop := operLeftRow.holds Tryd.pinned (OpenSpec.ofChange operLeftWrong)

/-- 'quilllaw20.SmallTurns': WHATEVER THE INPUT: true; the input reads as it did. -/
def smallTurnsSpec : ChangeSpec := { name := "smallTurns", fn := fun _ => fun
  | [d] => { results := [.lit (.bool true)], args := [d] }
  | _ => none }
def smallTurnsRow : OpenClaim := { program := "ytleoffdjdgbanaadoor", sum := "6d5f0cab4c8e7863775b135a2537646ef9cc5e006792d099bd72c74eb5aca335", func := "quill/quilllaw20.SmallTurns", spec := "smallTurns", inPlace := ["internal/bytealg.IndexByteString", "internal/bytealg.CountString", "internal/bytealg.IndexString", "internal/abi.NoEscape", "internal/bytealg.MakeNoZero"], named := ["unicode/utf8.first", "unicode/utf8.acceptRanges", "unicode.properties", "unicode.Upper", "unicode.CaseRanges", "internal/bytealg.MaxLen"], apart := false, laid := [("unicode/utf8.acceptRanges", laid_unicode_utf8_acceptRanges), ("unicode.properties", laid_unicode_properties), ("unicode.CaseRanges", laid_unicode_CaseRanges), ("unicode.Upper", laid_unicode_Upper), ("unicode/utf8.first", laid_unicode_utf8_first)] }
def SmallTurnsSaid : Prop := smallTurnsRow.holds Tryd.pinned (OpenSpec.ofChange smallTurnsSpec)

/-- ITS FALSE NEIGHBOUR: 'it returns false'. Refute it at one input. -/
def smallTurnsWrong : ChangeSpec := { name := "smallTurns", fn := fun _ => fun
  | [d] => { results := [.lit (.bool false)], args := [d] }
  | _ => none }
def SmallTurnsWrongFalsely : Prop := smallTurnsRow.holds Tryd.pinned (OpenSpec.ofChange smallTurnsWrong)

/-- 'quilllaw20.SmallJoins': WHATEVER THE INPUT: true; the input reads as it did. -/
def smallJoinsSpec : ChangeSpec := { name := "smallJoins", fn := fun _ => fun
  | [d] => { results := [.lit (.bool true)], args := [d] }
  | _ => none }
def smallJoinsRow : OpenClaim := { program := "ytleoffdjdgbanaadoor", sum := "6d5f0cab4c8e7863775b135a2537646ef9cc5e006792d099bd72c74eb5aca335", func := "quill/quilllaw20.SmallJoins", spec := "smallJoins", inPlace := ["internal/bytealg.IndexByteString", "internal/bytealg.CountString", "internal/bytealg.IndexString", "internal/abi.NoEscape", "internal/bytealg.MakeNoZero"], named := ["unicode/utf8.first", "unicode/utf8.acceptRanges", "unicode.properties", "unicode.Upper", "unicode.CaseRanges", "internal/bytealg.MaxLen"], apart := false, laid := [("unicode/utf8.acceptRanges", laid_unicode_utf8_acceptRanges), ("unicode.properties", laid_unicode_properties), ("unicode.CaseRanges", laid_unicode_CaseRanges), ("unicode.Upper", laid_unicode_Upper), ("unicode/utf8.first", laid_unicode_utf8_first)] }
def SmallJoinsSaid : Prop := smallJoinsRow.holds Tryd.pinned (OpenSpec.ofChange smallJoinsSpec)

/-- ITS FALSE NEIGHBOUR: 'it returns false'. Refute it at one input. -/
def smallJoinsWrong : ChangeSpec := { name := "smallJoins", fn := fun _ => fun
  | [d] => { results := [.lit (.bool false)], args := [d] }
  | _ => none }
def SmallJoinsWrongFalsely : Prop := smallJoinsRow.holds Tryd.pinned (OpenSpec.ofChange smallJoinsWrong)

/-- 'quilllaw20.SmallSame': WHATEVER THE INPUT: true; the input reads as it did. -/
def smallSameSpec : ChangeSpec := { name := "smallSame", fn := fun _ => fun
  | [d] => { results := [.lit (.bool true)], args := [d] }
  | _ => none }
def smallSameRow : OpenClaim := { program := "ytleoffdjdgbanaadoor", sum := "6d5f0cab4c8e7863775b135a2537646ef9cc5e006792d099bd72c74eb5aca335", func := "quill/quilllaw20.SmallSame", spec := "smallSame", inPlace := ["internal/bytealg.IndexByteString", "internal/bytealg.CountString", "internal/bytealg.IndexString", "internal/abi.NoEscape", "internal/bytealg.MakeNoZero"], named := ["unicode/utf8.first", "unicode/utf8.acceptRanges", "unicode.properties", "unicode.Upper", "unicode.CaseRanges", "internal/bytealg.MaxLen"], apart := false, laid := [("unicode/utf8.acceptRanges", laid_unicode_utf8_acceptRanges), ("unicode.properties", laid_unicode_properties), ("unicode.CaseRanges", laid_unicode_CaseRanges), ("unicode.Upper", laid_unicode_Upper), ("unicode/utf8.first", laid_unicode_utf8_first)] }
def SmallSameSaid : Prop := smallSameRow.holds Tryd.pinned (OpenSpec.ofChange smallSameSpec)

/-- ITS FALSE NEIGHBOUR: 'it returns false'. Refute it at one input. -/
def smallSameWrong : ChangeSpec := { name := "smallSame", fn := fun _ => fun
  | [d] => { results := [.lit (.bool false)], args := [d] }
  | _ => none }
def SmallSameWrongFalsely : Prop := smallSameRow.holds Tryd.pinned (OpenSpec.ofChange smallSameWrong)

/-- 'quilllaw20.SmallX': WHATEVER THE INPUT: true; the input reads as it did. -/
def smallXSpec : ChangeSpec := { name := "smallX", fn := fun _ => fun
  | [d] => { results := [.lit (.bool true)], args := [d] }
  | _ => none }
def smallXRow : OpenClaim := { program := "ytleoffdjdgbanaadoor", sum := "6d5f0cab4c8e7863775b135a2537646ef9cc5e006792d099bd72c74eb5aca335", func := "quill/quilllaw20.SmallX", spec := "smallX", inPlace := ["internal/bytealg.IndexByteString", "internal/bytealg.CountString", "internal/bytealg.IndexString", "internal/abi.NoEscape", "internal/bytealg.MakeNoZero"], named := ["unicode/utf8.first", "unicode/utf8.acceptRanges", "unicode.properties", "unicode.Upper", "unicode.CaseRanges", "internal/bytealg.MaxLen"], apart := false, laid := [("unicode/utf8.acceptRanges", laid_unicode_utf8_acceptRanges), ("unicode.properties", laid_unicode_properties), ("unicode.CaseRanges", laid_unicode_CaseRanges), ("unicode.Upper", laid_unicode_Upper), ("unicode/utf8.first", laid_unicode_utf8_first)] }
def SmallXSaid : Prop := smallXRow.holds Tryd.pinned (OpenSpec.ofChange smallXSpec)

/-- ITS FALSE NEIGHBOUR: 'it returns false'. Refute it at one input. -/
def smallXWrong : ChangeSpec := { name := "smallX", fn := fun _ => fun
  | [d] => { results := [.lit (.bool false)], args := [d] }
  | _ => none }
def SmallXWrongFalsely : Prop := smallXRow.holds Tryd.pinned (OpenSpec.ofChange smallXWrong)

/-- 'quilllaw20.SmallR': WHATEVER THE INPUT: true; the input reads as it did. -/
def smallRSpec : ChangeSpec := { name := "smallR", fn := fun _ => fun
  | [d] => { results := [.lit (.bool true)], args := [d] }
  | _ => none }
def smallRRow : OpenClaim := { program := "ytleoffdjdgbanaadoor", sum := "6d5f0cab4c8e7863775b135a2537646ef9cc5e006792d099bd72c74eb5aca335", func := "quill/quilllaw20.SmallR", spec := "smallR", inPlace := ["internal/bytealg.IndexByteString", "internal/bytealg.CountString", "internal/bytealg.IndexString", "internal/abi.NoEscape", "internal/bytealg.MakeNoZero"], named := ["unicode/utf8.first", "unicode/utf8.acceptRanges", "unicode.properties", "unicode.Upper", "unicode.CaseRanges", "internal/bytealg.MaxLen"], apart := false, laid := [("unicode/utf8.acceptRanges", laid_unicode_utf8_acceptRanges), ("unicode.properties", laid_unicode_properties), ("unicode.CaseRanges", laid_unicode_CaseRanges), ("unicode.Upper", laid_unicode_Upper), ("unicode/utf8.first", laid_unicode_utf8_first)] }
def SmallRSaid : Prop := smallRRow.holds Tryd.pinned (OpenSpec.ofChange smallRSpec)

/-- ITS FALSE NEIGHBOUR: 'it returns false'. Refute it at one input. -/
def smallRWrong : ChangeSpec := { name := "smallR", fn := fun _ => fun
  | [d] => { results := [.lit (.bool false)], args := [d] }
  | _ => none }
def SmallRWrongFalsely : Prop := smallRRow.holds Tryd.pinned (OpenSpec.ofChange smallRWrong)

/-- 'quilllaw20.SmallTilde': WHATEVER THE INPUT: true; the input reads as it did. -/
def smallTildeSpec : ChangeSpec := { name := "smallTilde", fn := fun _ => fun
  | [d] => { results := [.lit (.bool true)], args := [d] }
  | _ => none }
def smallTildeRow : OpenClaim := { program := "ytleoffdjdgbanaadoor", sum := "6d5f0cab4c8e7863775b135a2537646ef9cc5e006792d099bd72c74eb5aca335", func := "quill/quilllaw20.SmallTilde", spec := "smallTilde", inPlace := ["internal/bytealg.IndexByteString", "internal/bytealg.CountString", "internal/bytealg.IndexString", "internal/abi.NoEscape", "internal/bytealg.MakeNoZero"], named := ["unicode/utf8.first", "unicode/utf8.acceptRanges", "unicode.properties", "unicode.Upper", "unicode.CaseRanges", "internal/bytealg.MaxLen"], apart := false, laid := [("unicode/utf8.acceptRanges", laid_unicode_utf8_acceptRanges), ("unicode.properties", laid_unicode_properties), ("unicode.CaseRanges", laid_unicode_CaseRanges), ("unicode.Upper", laid_unicode_Upper), ("unicode/utf8.first", laid_unicode_utf8_first)] }
def SmallTildeSaid : Prop := smallTildeRow.holds Tryd.pinned (OpenSpec.ofChange smallTildeSpec)

/-- ITS FALSE NEIGHBOUR: 'it returns false'. Refute it at one input. -/
def smallTildeWrong : ChangeSpec := { name := "smallTilde", fn := fun _ => fun
  | [d] => { results := [.lit (.bool false)], args := [d] }
  | _ => none }
def SmallTildeWrongFalsely : Prop := smallTildeRow.holds Tryd.pinned (OpenSpec.ofChange smallTildeWrong)

/- THE SECOND FORM. 'bulk': how many values and letters a reading holds, each counted each time it is reached (what is shared counts as often as it is met; a slice's spare places count too). A statement '..UptoSaid' is the law's where the arguments, and the package variables that the reading takes, are together of bulk at most 1048576: NARROWER than '..Said'. Prove '..Said' where nothing that the law and all that it calls make is longer than what came in: it says more and counts as full. Else prove '..UptoSaid'. A law counts once. -/
mutual
def uptoBulk {H : Type} : DataW H → Nat
  | .lit (.string bytes) => bytes.length + 1
  | .lit _ => 1
  | .nil => 1
  | .ptr d => uptoBulk d + 1
  | .slice elems spare => uptoBulkAll elems + uptoBulkAll spare + 1
  | .agg parts => uptoBulkAll parts + 1
  | .iface _ d => uptoBulk d + 1
  | .map entries => uptoBulkEntries entries + 1
  | .held _ => 1
def uptoBulkAll {H : Type} : List (DataW H) → Nat
  | [] => 0
  | d :: r => uptoBulk d + uptoBulkAll r
def uptoBulkEntries {H : Type} : List (Lit × DataW H) → Nat
  | [] => 0
  | x :: r => uptoBulkEntry x + uptoBulkEntries r
def uptoBulkEntry {H : Type} : Lit × DataW H → Nat
  | (.string bytes, d) => bytes.length + uptoBulk d + 1
  | (_, d) => uptoBulk d + 1
 end
def uptoSmall : (H : Type) → List (DataW H) → Bool := fun _ ds => decide (uptoBulkAll ds ≤ 1048576)
def OpenSpec.upto (s : _root_.Go.ChangeSpec) : _root_.Go.OpenSpec := { _root_.Go.OpenSpec.ofChange s with cond := some uptoSmall }

/-- 'quilllaw19.PutBack', WHERE WHAT IT READS IS OF BULK AT MOST 1048576: true; the input reads as it did. -/
def putBackUptoRow : OpenClaim := { program := "ytleoffdjdgbanaadoor", sum := "6d5f0cab4c8e7863775b135a2537646ef9cc5e006792d099bd72c74eb5aca335", func := "quill/quilllaw19.PutBack", spec := "putBack", inPlace := ["internal/bytealg.IndexByteString", "internal/abi.NoEscape", "internal/bytealg.MakeNoZero", "internal/bytealg.IndexString"], named := ["unicode/utf8.first", "unicode/utf8.acceptRanges", "internal/bytealg.MaxLen"], apart := false, laid := [("unicode/utf8.acceptRanges", laid_unicode_utf8_acceptRanges), ("unicode/utf8.first", laid_unicode_utf8_first)], narrowed := true }
def PutBackUptoSaid : Prop := putBackUptoRow.holds Tryd.pinned (OpenSpec.upto putBackSpec)

/-- 'quilllaw18.ChangeDeletes', WHERE WHAT IT READS IS OF BULK AT MOST 1048576: true; the input reads as it did. -/
def changeDeletesUptoRow : OpenClaim := { program := "ytleoffdjdgbanaadoor", sum := "6d5f0cab4c8e7863775b135a2537646ef9cc5e006792d099bd72c74eb5aca335", func := "quill/quilllaw18.ChangeDeletes", spec := "changeDeletes", inPlace := ["internal/bytealg.IndexByteString", "internal/bytealg.CountString", "internal/bytealg.IndexString", "internal/abi.NoEscape", "internal/bytealg.MakeNoZero"], named := ["unicode/utf8.first", "unicode/utf8.acceptRanges", "internal/bytealg.MaxLen", "unicode.properties", "unicode.Upper", "unicode.CaseRanges"], apart := false, laid := [("unicode/utf8.acceptRanges", laid_unicode_utf8_acceptRanges), ("unicode.properties", laid_unicode_properties), ("unicode.CaseRanges", laid_unicode_CaseRanges), ("unicode.Upper", laid_unicode_Upper), ("unicode/utf8.first", laid_unicode_utf8_first)], narrowed := true }
def ChangeDeletesUptoSaid : Prop := changeDeletesUptoRow.holds Tryd.pinned (OpenSpec.upto changeDeletesSpec)

/-- 'quilllaw18.ChangeChanges', WHERE WHAT IT READS IS OF BULK AT MOST 1048576: true; the input reads as it did. -/
def changeChangesUptoRow : OpenClaim := { program := "ytleoffdjdgbanaadoor", sum := "6d5f0cab4c8e7863775b135a2537646ef9cc5e006792d099bd72c74eb5aca335", func := "quill/quilllaw18.ChangeChanges", spec := "changeChanges", inPlace := ["internal/bytealg.IndexByteString", "internal/bytealg.CountString", "internal/bytealg.IndexString", "internal/abi.NoEscape", "internal/bytealg.MakeNoZero"], named := ["unicode/utf8.first", "unicode/utf8.acceptRanges", "internal/bytealg.MaxLen", "unicode.properties", "unicode.Upper", "unicode.CaseRanges"], apart := false, laid := [("unicode/utf8.acceptRanges", laid_unicode_utf8_acceptRanges), ("unicode.properties", laid_unicode_properties), ("unicode.CaseRanges", laid_unicode_CaseRanges), ("unicode.Upper", laid_unicode_Upper), ("unicode/utf8.first", laid_unicode_utf8_first)], narrowed := true }
def ChangeChangesUptoSaid : Prop := changeChangesUptoRow.holds Tryd.pinned (OpenSpec.upto changeChangesSpec)

/-- 'quilllaw18.ChangeYanks', WHERE WHAT IT READS IS OF BULK AT MOST 1048576: true; the input reads as it did. -/
def changeYanksUptoRow : OpenClaim := { program := "ytleoffdjdgbanaadoor", sum := "6d5f0cab4c8e7863775b135a2537646ef9cc5e006792d099bd72c74eb5aca335", func := "quill/quilllaw18.ChangeYanks", spec := "changeYanks", inPlace := ["internal/bytealg.IndexByteString", "internal/bytealg.CountString", "internal/bytealg.IndexString", "internal/abi.NoEscape", "internal/bytealg.MakeNoZero"], named := ["unicode/utf8.first", "unicode/utf8.acceptRanges", "internal/bytealg.MaxLen", "unicode.properties", "unicode.Upper", "unicode.CaseRanges"], apart := false, laid := [("unicode/utf8.acceptRanges", laid_unicode_utf8_acceptRanges), ("unicode.properties", laid_unicode_properties), ("unicode.CaseRanges", laid_unicode_CaseRanges), ("unicode.Upper", laid_unicode_Upper), ("unicode/utf8.first", laid_unicode_utf8_first)], narrowed := true }
def ChangeYanksUptoSaid : Prop := changeYanksUptoRow.holds Tryd.pinned (OpenSpec.upto changeYanksSpec)

/-- 'quilllaw18.ChangeShifts', WHERE WHAT IT READS IS OF BULK AT MOST 1048576: true; the input reads as it did. -/
def changeShiftsUptoRow : OpenClaim := { program := "ytleoffdjdgbanaadoor", sum := "6d5f0cab4c8e7863775b135a2537646ef9cc5e006792d099bd72c74eb5aca335", func := "quill/quilllaw18.ChangeShifts", spec := "changeShifts", inPlace := ["internal/bytealg.IndexByteString", "internal/bytealg.CountString", "internal/bytealg.IndexString", "internal/abi.NoEscape", "internal/bytealg.MakeNoZero"], named := ["unicode/utf8.first", "unicode/utf8.acceptRanges", "internal/bytealg.MaxLen", "unicode.properties", "unicode.Upper", "unicode.CaseRanges"], apart := false, laid := [("unicode/utf8.acceptRanges", laid_unicode_utf8_acceptRanges), ("unicode.properties", laid_unicode_properties), ("unicode.CaseRanges", laid_unicode_CaseRanges), ("unicode.Upper", laid_unicode_Upper), ("unicode/utf8.first", laid_unicode_utf8_first)], narrowed := true }
def ChangeShiftsUptoSaid : Prop := changeShiftsUptoRow.holds Tryd.pinned (OpenSpec.upto changeShiftsSpec)

/-- 'quilllaw18.ChangeCases', WHERE WHAT IT READS IS OF BULK AT MOST 1048576: true; the input reads as it did. -/
def changeCasesUptoRow : OpenClaim := { program := "ytleoffdjdgbanaadoor", sum := "6d5f0cab4c8e7863775b135a2537646ef9cc5e006792d099bd72c74eb5aca335", func := "quill/quilllaw18.ChangeCases", spec := "changeCases", inPlace := ["internal/bytealg.IndexByteString", "internal/bytealg.CountString", "internal/bytealg.IndexString", "internal/abi.NoEscape", "internal/bytealg.MakeNoZero"], named := ["unicode/utf8.first", "unicode/utf8.acceptRanges", "internal/bytealg.MaxLen", "unicode.properties", "unicode.Upper", "unicode.CaseRanges"], apart := false, laid := [("unicode/utf8.acceptRanges", laid_unicode_utf8_acceptRanges), ("unicode.properties", laid_unicode_properties), ("unicode.CaseRanges", laid_unicode_CaseRanges), ("unicode.Upper", laid_unicode_Upper), ("unicode/utf8.first", laid_unicode_utf8_first)], narrowed := true }
def ChangeCasesUptoSaid : Prop := changeCasesUptoRow.holds Tryd.pinned (OpenSpec.upto changeCasesSpec)

/-- 'quilllaw18.ChangeStays', WHERE WHAT IT READS IS OF BULK AT MOST 1048576: true; the input reads as it did. -/
def changeStaysUptoRow : OpenClaim := { program := "ytleoffdjdgbanaadoor", sum := "6d5f0cab4c8e7863775b135a2537646ef9cc5e006792d099bd72c74eb5aca335", func := "quill/quilllaw18.ChangeStays", spec := "changeStays", inPlace := ["internal/bytealg.IndexByteString", "internal/bytealg.CountString", "internal/bytealg.IndexString", "internal/abi.NoEscape", "internal/bytealg.MakeNoZero"], named := ["unicode/utf8.first", "unicode/utf8.acceptRanges", "internal/bytealg.MaxLen", "unicode.properties", "unicode.Upper", "unicode.CaseRanges"], apart := false, laid := [("unicode/utf8.acceptRanges", laid_unicode_utf8_acceptRanges), ("unicode.properties", laid_unicode_properties), ("unicode.CaseRanges", laid_unicode_CaseRanges), ("unicode.Upper", laid_unicode_Upper), ("unicode/utf8.first", laid_unicode_utf8_first)], narrowed := true }
def ChangeStaysUptoSaid : Prop := changeStaysUptoRow.holds Tryd.pinned (OpenSpec.upto changeStaysSpec)

/-- 'quilllaw18.OperLower', WHERE WHAT IT READS IS OF BULK AT MOST 1048576: true; the input reads as it did. -/
def operLowerUptoRow : OpenClaim := { program := "ytleoffdjdgbanaadoor", sum := "6d5f0cab4c8e7863775b135a2537646ef9cc5e006792d099bd72c74eb5aca335", func := "quill/quilllaw18.OperLower", spec := "operLower", inPlace := ["internal/bytealg.IndexByteString", "internal/bytealg.CountString", "internal/bytealg.IndexString", "internal/abi.NoEscape", "internal/bytealg.MakeNoZero"], named := ["unicode/utf8.first", "unicode/utf8.acceptRanges", "internal/bytealg.MaxLen", "unicode.properties", "unicode.Upper", "unicode.CaseRanges"], apart := false, laid := [("unicode/utf8.acceptRanges", laid_unicode_utf8_acceptRanges), ("unicode.properties", laid_unicode_properties), ("unicode.CaseRanges", laid_unicode_CaseRanges), ("unicode.Upper", laid_unicode_Upper), ("unicode/utf8.first", laid_unicode_utf8_first)], narrowed := true }
def OperLowerUptoSaid : Prop := operLowerUptoRow.holds Tryd.pinned (OpenSpec.upto operLowerSpec)

/-- 'quilllaw18.OperUpper', WHERE WHAT IT READS IS OF BULK AT MOST 1048576: true; the input reads as it did. -/
def operUpperUptoRow : OpenClaim := { program := "ytleoffdjdgbanaadoor", sum := "6d5f0cab4c8e7863775b135a2537646ef9cc5e006792d099bd72c74eb5aca335", func := "quill/quilllaw18.OperUpper", spec := "operUpper", inPlace := ["internal/bytealg.IndexByteString", "internal/bytealg.CountString", "internal/bytealg.IndexString", "internal/abi.NoEscape", "internal/bytealg.MakeNoZero"], named := ["unicode/utf8.first", "unicode/utf8.acceptRanges", "internal/bytealg.MaxLen", "unicode.properties", "unicode.Upper", "unicode.CaseRanges"], apart := false, laid := [("unicode/utf8.acceptRanges", laid_unicode_utf8_acceptRanges), ("unicode.properties", laid_unicode_properties), ("unicode.CaseRanges", laid_unicode_CaseRanges), ("unicode.Upper", laid_unicode_Upper), ("unicode/utf8.first", laid_unicode_utf8_first)], narrowed := true }
def OperUpperUptoSaid : Prop := operUpperUptoRow.holds Tryd.pinned (OpenSpec.upto operUpperSpec)

/-- 'quilllaw18.OperTurn', WHERE WHAT IT READS IS OF BULK AT MOST 1048576: true; the input reads as it did. -/
def operTurnUptoRow : OpenClaim := { program := "ytleoffdjdgbanaadoor", sum := "6d5f0cab4c8e7863775b135a2537646ef9cc5e006792d099bd72c74eb5aca335", func := "quill/quilllaw18.OperTurn", spec := "operTurn", inPlace := ["internal/bytealg.IndexByteString", "internal/bytealg.CountString", "internal/bytealg.IndexString", "internal/abi.NoEscape", "internal/bytealg.MakeNoZero"], named := ["unicode/utf8.first", "unicode/utf8.acceptRanges", "internal/bytealg.MaxLen", "unicode.properties", "unicode.Upper", "unicode.CaseRanges"], apart := false, laid := [("unicode/utf8.acceptRanges", laid_unicode_utf8_acceptRanges), ("unicode.properties", laid_unicode_properties), ("unicode.CaseRanges", laid_unicode_CaseRanges), ("unicode.Upper", laid_unicode_Upper), ("unicode/utf8.first", laid_unicode_utf8_first)], narrowed := true }
def OperTurnUptoSaid : Prop := operTurnUptoRow.holds Tryd.pinned (OpenSpec.upto operTurnSpec)

/-- 'quilllaw18.OperRight', WHERE WHAT IT READS IS OF BULK AT MOST 1048576: true; the input reads as it did. -/
def operRightUptoRow : OpenClaim := { program := "ytleoffdjdgbanaadoor", sum := "6d5f0cab4c8e7863775b135a2537646ef9cc5e006792d099bd72c74eb5aca335", func := "quill/quilllaw18.OperRight", spec := "operRight", inPlace := ["internal/bytealg.IndexByteString", "internal/bytealg.CountString", "internal/bytealg.IndexString", "internal/abi.NoEscape", "internal/bytealg.MakeNoZero"], named := ["unicode/utf8.first", "unicode/utf8.acceptRanges", "internal/bytealg.MaxLen", "unicode.properties", "unicode.Upper", "unicode.CaseRanges"], apart := false, laid := [("unicode/utf8.acceptRanges", laid_unicode_utf8_acceptRanges), ("unicode.properties", laid_unicode_properties), ("unicode.CaseRanges", laid_unicode_CaseRanges), ("unicode.Upper", laid_unicode_Upper), ("unicode/utf8.first", laid_unicode_utf8_first)], narrowed := true }
def OperRightUptoSaid : Prop := operRightUptoRow.holds Tryd.pinned (OpenSpec.upto operRightSpec)

/-- 'quilllaw18.OperLeft', WHERE WHAT IT READS IS OF BULK AT MOST 1048576: true; the input reads as it did. -/
def operLeftUptoRow : OpenClaim := { program := "ytleoffdjdgbanaadoor", sum := "6d5f0cab4c8e7863775b135a2537646ef9cc5e006792d099bd72c74eb5aca335", func := "quill/quilllaw18.OperLeft", spec := "operLeft", inPlace := ["internal/bytealg.IndexByteString", "internal/bytealg.CountString", "internal/bytealg.IndexString", "internal/abi.NoEscape", "internal/bytealg.MakeNoZero"], named := ["unicode/utf8.first", "unicode/utf8.acceptRanges", "internal/bytealg.MaxLen", "unicode.properties", "unicode.Upper", "unicode.CaseRanges"], apart := false, laid := [("unicode/utf8.acceptRanges", laid_unicode_utf8_acceptRanges), ("unicode.properties", laid_unicode_properties), ("unicode.CaseRanges", laid_unicode_CaseRanges), ("unicode.Upper", laid_unicode_Upper), ("unicode/utf8.first", laid_unicode_utf8_first)], narrowed := true }
def OperLeftUptoSaid : Prop := operLeftUptoRow.holds Tryd.pinned (OpenSpec.upto operLeftSpec)

/-- 'quilllaw20.SmallTurns', WHERE WHAT IT READS IS OF BULK AT MOST 1048576: true; the input reads as it did. -/
def smallTurnsUptoRow : OpenClaim := { program := "ytleoffdjdgbanaadoor", sum := "6d5f0cab4c8e7863775b135a2537646ef9cc5e006792d099bd72c74eb5aca335", func := "quill/quilllaw20.SmallTurns", spec := "smallTurns", inPlace := ["internal/bytealg.IndexByteString", "internal/bytealg.CountString", "internal/bytealg.IndexString", "internal/abi.NoEscape", "internal/bytealg.MakeNoZero"], named := ["unicode/utf8.first", "unicode/utf8.acceptRanges", "unicode.properties", "unicode.Upper", "unicode.CaseRanges", "internal/bytealg.MaxLen"], apart := false, laid := [("unicode/utf8.acceptRanges", laid_unicode_utf8_acceptRanges), ("unicode.properties", laid_unicode_properties), ("unicode.CaseRanges", laid_unicode_CaseRanges), ("unicode.Upper", laid_unicode_Upper), ("unicode/utf8.first", laid_unicode_utf8_first)], narrowed := true }
def SmallTurnsUptoSaid : Prop := smallTurnsUptoRow.holds Tryd.pinned (OpenSpec.upto smallTurnsSpec)

/-- 'quilllaw20.SmallJoins', WHERE WHAT IT READS IS OF BULK AT MOST 1048576: true; the input reads as it did. -/
def smallJoinsUptoRow : OpenClaim := { program := "ytleoffdjdgbanaadoor", sum := "6d5f0cab4c8e7863775b135a2537646ef9cc5e006792d099bd72c74eb5aca335", func := "quill/quilllaw20.SmallJoins", spec := "smallJoins", inPlace := ["internal/bytealg.IndexByteString", "internal/bytealg.CountString", "internal/bytealg.IndexString", "internal/abi.NoEscape", "internal/bytealg.MakeNoZero"], named := ["unicode/utf8.first", "unicode/utf8.acceptRanges", "unicode.properties", "unicode.Upper", "unicode.CaseRanges", "internal/bytealg.MaxLen"], apart := false, laid := [("unicode/utf8.acceptRanges", laid_unicode_utf8_acceptRanges), ("unicode.properties", laid_unicode_properties), ("unicode.CaseRanges", laid_unicode_CaseRanges), ("unicode.Upper", laid_unicode_Upper), ("unicode/utf8.first", laid_unicode_utf8_first)], narrowed := true }
def SmallJoinsUptoSaid : Prop := smallJoinsUptoRow.holds Tryd.pinned (OpenSpec.upto smallJoinsSpec)

/-- 'quilllaw20.SmallSame', WHERE WHAT IT READS IS OF BULK AT MOST 1048576: true; the input reads as it did. -/
def smallSameUptoRow : OpenClaim := { program := "ytleoffdjdgbanaadoor", sum := "6d5f0cab4c8e7863775b135a2537646ef9cc5e006792d099bd72c74eb5aca335", func := "quill/quilllaw20.SmallSame", spec := "smallSame", inPlace := ["internal/bytealg.IndexByteString", "internal/bytealg.CountString", "internal/bytealg.IndexString", "internal/abi.NoEscape", "internal/bytealg.MakeNoZero"], named := ["unicode/utf8.first", "unicode/utf8.acceptRanges", "unicode.properties", "unicode.Upper", "unicode.CaseRanges", "internal/bytealg.MaxLen"], apart := false, laid := [("unicode/utf8.acceptRanges", laid_unicode_utf8_acceptRanges), ("unicode.properties", laid_unicode_properties), ("unicode.CaseRanges", laid_unicode_CaseRanges), ("unicode.Upper", laid_unicode_Upper), ("unicode/utf8.first", laid_unicode_utf8_first)], narrowed := true }
def SmallSameUptoSaid : Prop := smallSameUptoRow.holds Tryd.pinned (OpenSpec.upto smallSameSpec)

/-- 'quilllaw20.SmallX', WHERE WHAT IT READS IS OF BULK AT MOST 1048576: true; the input reads as it did. -/
def smallXUptoRow : OpenClaim := { program := "ytleoffdjdgbanaadoor", sum := "6d5f0cab4c8e7863775b135a2537646ef9cc5e006792d099bd72c74eb5aca335", func := "quill/quilllaw20.SmallX", spec := "smallX", inPlace := ["internal/bytealg.IndexByteString", "internal/bytealg.CountString", "internal/bytealg.IndexString", "internal/abi.NoEscape", "internal/bytealg.MakeNoZero"], named := ["unicode/utf8.first", "unicode/utf8.acceptRanges", "unicode.properties", "unicode.Upper", "unicode.CaseRanges", "internal/bytealg.MaxLen"], apart := false, laid := [("unicode/utf8.acceptRanges", laid_unicode_utf8_acceptRanges), ("unicode.properties", laid_unicode_properties), ("unicode.CaseRanges", laid_unicode_CaseRanges), ("unicode.Upper", laid_unicode_Upper), ("unicode/utf8.first", laid_unicode_utf8_first)], narrowed := true }
def SmallXUptoSaid : Prop := smallXUptoRow.holds Tryd.pinned (OpenSpec.upto smallXSpec)

/-- 'quilllaw20.SmallR', WHERE WHAT IT READS IS OF BULK AT MOST 1048576: true; the input reads as it did. -/
def smallRUptoRow : OpenClaim := { program := "ytleoffdjdgbanaadoor", sum := "6d5f0cab4c8e7863775b135a2537646ef9cc5e006792d099bd72c74eb5aca335", func := "quill/quilllaw20.SmallR", spec := "smallR", inPlace := ["internal/bytealg.IndexByteString", "internal/bytealg.CountString", "internal/bytealg.IndexString", "internal/abi.NoEscape", "internal/bytealg.MakeNoZero"], named := ["unicode/utf8.first", "unicode/utf8.acceptRanges", "unicode.properties", "unicode.Upper", "unicode.CaseRanges", "internal/bytealg.MaxLen"], apart := false, laid := [("unicode/utf8.acceptRanges", laid_unicode_utf8_acceptRanges), ("unicode.properties", laid_unicode_properties), ("unicode.CaseRanges", laid_unicode_CaseRanges), ("unicode.Upper", laid_unicode_Upper), ("unicode/utf8.first", laid_unicode_utf8_first)], narrowed := true }
def SmallRUptoSaid : Prop := smallRUptoRow.holds Tryd.pinned (OpenSpec.upto smallRSpec)

/-- 'quilllaw20.SmallTilde', WHERE WHAT IT READS IS OF BULK AT MOST 1048576: true; the input reads as it did. -/
def smallTildeUptoRow : OpenClaim := { program := "ytleoffdjdgbanaadoor", sum := "6d5f0cab4c8e7863775b135a2537646ef9cc5e006792d099bd72c74eb5aca335", func := "quill/quilllaw20.SmallTilde", spec := "smallTilde", inPlace := ["internal/bytealg.IndexByteString", "internal/bytealg.CountString", "internal/bytealg.IndexString", "internal/abi.NoEscape", "internal/bytealg.MakeNoZero"], named := ["unicode/utf8.first", "unicode/utf8.acceptRanges", "unicode.properties", "unicode.Upper", "unicode.CaseRanges", "internal/bytealg.MaxLen"], apart := false, laid := [("unicode/utf8.acceptRanges", laid_unicode_utf8_acceptRanges), ("unicode.properties", laid_unicode_properties), ("unicode.CaseRanges", laid_unicode_CaseRanges), ("unicode.Upper", laid_unicode_Upper), ("unicode/utf8.first", laid_unicode_utf8_first)], narrowed := true }
def SmallTildeUptoSaid : Prop := smallTildeUptoRow.holds Tryd.pinned (OpenSpec.upto smallTildeSpec)

end Rows
end Go.Proofs.YtleoffdjdgbanaaDoor

/-
  DERIVED. GIVEN WITH THE SEED: THE CARDS: each row of YtleoffdjdgbanaaDoorRows.lean that lists a variable, with what it lists TIED to the program's text (the seventh form; the later family's looks); each row that meets fmt, with fmt's text TOLD by the authors' own Lean function (tested against real Go, not proved from fmt's source: count such statements apart). THE CARD IS WHAT COUNTS. Prove the row's statement (the work); the ties are given (YtleoffdjdgbanaaDoorTie.lean); close each card by the builder's one call (the guide's Derived/Test/ToyasCard.lean, 'card_holds'). Laid BY PROGRAM, IN A SANDBOX (cutbox-door.mjs). By AI agents, Wed Nov 11 2026. No macro, syntax, notation, axiom, sorry.
-/
import Derived.Test.YtleoffdjdgbanaaDoorRows
import GoSem.ClaimSeven
namespace Go.Proofs.YtleoffdjdgbanaaDoor
namespace Rows

/-- THE TIED CARD OF 'quilllaw19.PutBack'. -/
def putBackCard : Claim7 := { stood := { row := putBackRow, standIns := [], harness := (true, "f3912674dcdda81b802a1dcea0a63c3e984df34a1db26691d2058e72efd053ce"), looks := false }, kinds := [], alts := [], laidByText := true, laidKinds := [.data, .pinned], laidTests := true, laidLooks := .later }
def PutBackCardSaid : Prop := Claim7.holds Tryd.pinned (.plain (OpenSpec.ofChange putBackSpec)) putBackCard

/-- THE TIED CARD OF 'quilllaw18.ChangeDeletes'. -/
def changeDeletesCard : Claim7 := { stood := { row := changeDeletesRow, standIns := [], harness := (true, "f3912674dcdda81b802a1dcea0a63c3e984df34a1db26691d2058e72efd053ce"), looks := false }, kinds := [], alts := [], laidByText := true, laidKinds := [.data, .data, .pinned, .pinned, .pinned], laidTests := true, laidLooks := .later }
def ChangeDeletesCardSaid : Prop := Claim7.holds Tryd.pinned (.plain (OpenSpec.ofChange changeDeletesSpec)) changeDeletesCard

/-- THE TIED CARD OF 'quilllaw18.ChangeChanges'. -/
def changeChangesCard : Claim7 := { stood := { row := changeChangesRow, standIns := [], harness := (true, "f3912674dcdda81b802a1dcea0a63c3e984df34a1db26691d2058e72efd053ce"), looks := false }, kinds := [], alts := [], laidByText := true, laidKinds := [.data, .data, .pinned, .pinned, .pinned], laidTests := true, laidLooks := .later }
def ChangeChangesCardSaid : Prop := Claim7.holds Tryd.pinned (.plain (OpenSpec.ofChange changeChangesSpec)) changeChangesCard

/-- THE TIED CARD OF 'quilllaw18.ChangeYanks'. -/
def changeYanksCard : Claim7 := { stood := { row := changeYanksRow, standIns := [], harness := (true, "f3912674dcdda81b802a1dcea0a63c3e984df34a1db26691d2058e72efd053ce"), looks := false }, kinds := [], alts := [], laidByText := true, laidKinds := [.data, .data, .pinned, .pinned, .pinned], laidTests := true, laidLooks := .later }
def ChangeYanksCardSaid : Prop := Claim7.holds Tryd.pinned (.plain (OpenSpec.ofChange changeYanksSpec)) changeYanksCard

/-- THE TIED CARD OF 'quilllaw18.ChangeShifts'. -/
def changeShiftsCard : Claim7 := { stood := { row := changeShiftsRow, standIns := [], harness := (true, "f3912674dcdda81b802a1dcea0a63c3e984df34a1db26691d2058e72efd053ce"), looks := false }, kinds := [], alts := [], laidByText := true, laidKinds := [.data, .data, .pinned, .pinned, .pinned], laidTests := true, laidLooks := .later }
def ChangeShiftsCardSaid : Prop := Claim7.holds Tryd.pinned (.plain (OpenSpec.ofChange changeShiftsSpec)) changeShiftsCard

/-- THE TIED CARD OF 'quilllaw18.ChangeCases'. -/
def changeCasesCard : Claim7 := { stood := { row := changeCasesRow, standIns := [], harness := (true, "f3912674dcdda81b802a1dcea0a63c3e984df34a1db26691d2058e72efd053ce"), looks := false }, kinds := [], alts := [], laidByText := true, laidKinds := [.data, .data, .pinned, .pinned, .pinned], laidTests := true, laidLooks := .later }
def ChangeCasesCardSaid : Prop := Claim7.holds Tryd.pinned (.plain (OpenSpec.ofChange changeCasesSpec)) changeCasesCard

/-- THE TIED CARD OF 'quilllaw18.ChangeStays'. -/
def changeStaysCard : Claim7 := { stood := { row := changeStaysRow, standIns := [], harness := (true, "f3912674dcdda81b802a1dcea0a63c3e984df34a1db26691d2058e72efd053ce"), looks := false }, kinds := [], alts := [], laidByText := true, laidKinds := [.data, .data, .pinned, .pinned, .pinned], laidTests := true, laidLooks := .later }
def ChangeStaysCardSaid : Prop := Claim7.holds Tryd.pinned (.plain (OpenSpec.ofChange changeStaysSpec)) changeStaysCard

/-- THE TIED CARD OF 'quilllaw18.OperLower'. -/
def operLowerCard : Claim7 := { stood := { row := operLowerRow, standIns := [], harness := (true, "f3912674dcdda81b802a1dcea0a63c3e984df34a1db26691d2058e72efd053ce"), looks := false }, kinds := [], alts := [], laidByText := true, laidKinds := [.data, .data, .pinned, .pinned, .pinned], laidTests := true, laidLooks := .later }
def OperLowerCardSaid : Prop := Claim7.holds Tryd.pinned (.plain (OpenSpec.ofChange operLowerSpec)) operLowerCard

/-- THE TIED CARD OF 'quilllaw18.OperUpper'. -/
def operUpperCard : Claim7 := { stood := { row := operUpperRow, standIns := [], harness := (true, "f3912674dcdda81b802a1dcea0a63c3e984df34a1db26691d2058e72efd053ce"), looks := false }, kinds := [], alts := [], laidByText := true, laidKinds := [.data, .data, .pinned, .pinned, .pinned], laidTests := true, laidLooks := .later }
def OperUpperCardSaid : Prop := Claim7.holds Tryd.pinned (.plain (OpenSpec.ofChange operUpperSpec)) operUpperCard

/-- THE TIED CARD OF 'quilllaw18.OperTurn'. -/
def operTurnCard : Claim7 := { stood := { row := operTurnRow, standIns := [], harness := (true, "f3912674dcdda81b802a1dcea0a63c3e984df34a1db26691d2058e72efd053ce"), looks := false }, kinds := [], alts := [], laidByText := true, laidKinds := [.data, .data, .pinned, .pinned, .pinned], laidTests := true, laidLooks := .later }
def OperTurnCardSaid : Prop := Claim7.holds Tryd.pinned (.plain (OpenSpec.ofChange operTurnSpec)) operTurnCard

/-- THE TIED CARD OF 'quilllaw18.OperRight'. -/
def operRightCard : Claim7 := { stood := { row := operRightRow, standIns := [], harness := (true, "f3912674dcdda81b802a1dcea0a63c3e984df34a1db26691d2058e72efd053ce"), looks := false }, kinds := [], alts := [], laidByText := true, laidKinds := [.data, .data, .pinned, .pinned, .pinned], laidTests := true, laidLooks := .later }
def OperRightCardSaid : Prop := Claim7.holds Tryd.pinned (.plain (OpenSpec.ofChange operRightSpec)) operRightCard

/-- THE TIED CARD OF 'quilllaw18.OperLeft'. -/
def operLeftCard : Claim7 := { stood := { row := operLeftRow, standIns := [], harness := (true, "f3912674dcdda81b802a1dcea0a63c3e984df34a1db26691d2058e72efd053ce"), looks := false }, kinds := [], alts := [], laidByText := true, laidKinds := [.data, .data, .pinned, .pinned, .pinned], laidTests := true, laidLooks := .later }
def OperLeftCardSaid : Prop := Claim7.holds Tryd.pinned (.plain (OpenSpec.ofChange operLeftSpec)) operLeftCard

/-- THE TIED CARD OF 'quilllaw20.SmallTurns'. -/
def smallTurnsCard : Claim7 := { stood := { row := smallTurnsRow, standIns := [], harness := (true, "f3912674dcdda81b802a1dcea0a63c3e984df34a1db26691d2058e72efd053ce"), looks := false }, kinds := [], alts := [], laidByText := true, laidKinds := [.data, .data, .pinned, .pinned, .pinned], laidTests := true, laidLooks := .later }
def SmallTurnsCardSaid : Prop := Claim7.holds Tryd.pinned (.plain (OpenSpec.ofChange smallTurnsSpec)) smallTurnsCard

/-- THE TIED CARD OF 'quilllaw20.SmallJoins'. -/
def smallJoinsCard : Claim7 := { stood := { row := smallJoinsRow, standIns := [], harness := (true, "f3912674dcdda81b802a1dcea0a63c3e984df34a1db26691d2058e72efd053ce"), looks := false }, kinds := [], alts := [], laidByText := true, laidKinds := [.data, .data, .pinned, .pinned, .pinned], laidTests := true, laidLooks := .later }
def SmallJoinsCardSaid : Prop := Claim7.holds Tryd.pinned (.plain (OpenSpec.ofChange smallJoinsSpec)) smallJoinsCard

/-- THE TIED CARD OF 'quilllaw20.SmallSame'. -/
def smallSameCard : Claim7 := { stood := { row := smallSameRow, standIns := [], harness := (true, "f3912674dcdda81b802a1dcea0a63c3e984df34a1db26691d2058e72efd053ce"), looks := false }, kinds := [], alts := [], laidByText := true, laidKinds := [.data, .data, .pinned, .pinned, .pinned], laidTests := true, laidLooks := .later }
def SmallSameCardSaid : Prop := Claim7.holds Tryd.pinned (.plain (OpenSpec.ofChange smallSameSpec)) smallSameCard

/-- THE TIED CARD OF 'quilllaw20.SmallX'. -/
def smallXCard : Claim7 := { stood := { row := smallXRow, standIns := [], harness := (true, "f3912674dcdda81b802a1dcea0a63c3e984df34a1db26691d2058e72efd053ce"), looks := false }, kinds := [], alts := [], laidByText := true, laidKinds := [.data, .data, .pinned, .pinned, .pinned], laidTests := true, laidLooks := .later }
def SmallXCardSaid : Prop := Claim7.holds Tryd.pinned (.plain (OpenSpec.ofChange smallXSpec)) smallXCard

/-- THE TIED CARD OF 'quilllaw20.SmallR'. -/
def smallRCard : Claim7 := { stood := { row := smallRRow, standIns := [], harness := (true, "f3912674dcdda81b802a1dcea0a63c3e984df34a1db26691d2058e72efd053ce"), looks := false }, kinds := [], alts := [], laidByText := true, laidKinds := [.data, .data, .pinned, .pinned, .pinned], laidTests := true, laidLooks := .later }
def SmallRCardSaid : Prop := Claim7.holds Tryd.pinned (.plain (OpenSpec.ofChange smallRSpec)) smallRCard

/-- THE TIED CARD OF 'quilllaw20.SmallTilde'. -/
def smallTildeCard : Claim7 := { stood := { row := smallTildeRow, standIns := [], harness := (true, "f3912674dcdda81b802a1dcea0a63c3e984df34a1db26691d2058e72efd053ce"), looks := false }, kinds := [], alts := [], laidByText := true, laidKinds := [.data, .data, .pinned, .pinned, .pinned], laidTests := true, laidLooks := .later }
def SmallTildeCardSaid : Prop := Claim7.holds Tryd.pinned (.plain (OpenSpec.ofChange smallTildeSpec)) smallTildeCard

/-- THE SECOND FORM's CARD OF 'quilllaw19.PutBack'. -/
def putBackUptoCard : Claim7 := { stood := { row := putBackUptoRow, standIns := [], harness := (true, "f3912674dcdda81b802a1dcea0a63c3e984df34a1db26691d2058e72efd053ce"), looks := false }, kinds := [], alts := [], laidByText := true, laidKinds := [.data, .pinned], laidTests := true, laidLooks := .later }
def PutBackUptoCardSaid : Prop := Claim7.holds Tryd.pinned (.plain (OpenSpec.upto putBackSpec)) putBackUptoCard

/-- THE SECOND FORM's CARD OF 'quilllaw18.ChangeDeletes'. -/
def changeDeletesUptoCard : Claim7 := { stood := { row := changeDeletesUptoRow, standIns := [], harness := (true, "f3912674dcdda81b802a1dcea0a63c3e984df34a1db26691d2058e72efd053ce"), looks := false }, kinds := [], alts := [], laidByText := true, laidKinds := [.data, .data, .pinned, .pinned, .pinned], laidTests := true, laidLooks := .later }
def ChangeDeletesUptoCardSaid : Prop := Claim7.holds Tryd.pinned (.plain (OpenSpec.upto changeDeletesSpec)) changeDeletesUptoCard

/-- THE SECOND FORM's CARD OF 'quilllaw18.ChangeChanges'. -/
def changeChangesUptoCard : Claim7 := { stood := { row := changeChangesUptoRow, standIns := [], harness := (true, "f3912674dcdda81b802a1dcea0a63c3e984df34a1db26691d2058e72efd053ce"), looks := false }, kinds := [], alts := [], laidByText := true, laidKinds := [.data, .data, .pinned, .pinned, .pinned], laidTests := true, laidLooks := .later }
def ChangeChangesUptoCardSaid : Prop := Claim7.holds Tryd.pinned (.plain (OpenSpec.upto changeChangesSpec)) changeChangesUptoCard

/-- THE SECOND FORM's CARD OF 'quilllaw18.ChangeYanks'. -/
def changeYanksUptoCard : Claim7 := { stood := { row := changeYanksUptoRow, standIns := [], harness := (true, "f3912674dcdda81b802a1dcea0a63c3e984df34a1db26691d2058e72efd053ce"), looks := false }, kinds := [], alts := [], laidByText := true, laidKinds := [.data, .data, .pinned, .pinned, .pinned], laidTests := true, laidLooks := .later }
def ChangeYanksUptoCardSaid : Prop := Claim7.holds Tryd.pinned (.plain (OpenSpec.upto changeYanksSpec)) changeYanksUptoCard

/-- THE SECOND FORM's CARD OF 'quilllaw18.ChangeShifts'. -/
def changeShiftsUptoCard : Claim7 := { stood := { row := changeShiftsUptoRow, standIns := [], harness := (true, "f3912674dcdda81b802a1dcea0a63c3e984df34a1db26691d2058e72efd053ce"), looks := false }, kinds := [], alts := [], laidByText := true, laidKinds := [.data, .data, .pinned, .pinned, .pinned], laidTests := true, laidLooks := .later }
def ChangeShiftsUptoCardSaid : Prop := Claim7.holds Tryd.pinned (.plain (OpenSpec.upto changeShiftsSpec)) changeShiftsUptoCard

/-- THE SECOND FORM's CARD OF 'quilllaw18.ChangeCases'. -/
def changeCasesUptoCard : Claim7 := { stood := { row := changeCasesUptoRow, standIns := [], harness := (true, "f3912674dcdda81b802a1dcea0a63c3e984df34a1db26691d2058e72efd053ce"), looks := false }, kinds := [], alts := [], laidByText := true, laidKinds := [.data, .data, .pinned, .pinned, .pinned], laidTests := true, laidLooks := .later }
def ChangeCasesUptoCardSaid : Prop := Claim7.holds Tryd.pinned (.plain (OpenSpec.upto changeCasesSpec)) changeCasesUptoCard

/-- THE SECOND FORM's CARD OF 'quilllaw18.ChangeStays'. -/
def changeStaysUptoCard : Claim7 := { stood := { row := changeStaysUptoRow, standIns := [], harness := (true, "f3912674dcdda81b802a1dcea0a63c3e984df34a1db26691d2058e72efd053ce"), looks := false }, kinds := [], alts := [], laidByText := true, laidKinds := [.data, .data, .pinned, .pinned, .pinned], laidTests := true, laidLooks := .later }
def ChangeStaysUptoCardSaid : Prop := Claim7.holds Tryd.pinned (.plain (OpenSpec.upto changeStaysSpec)) changeStaysUptoCard

/-- THE SECOND FORM's CARD OF 'quilllaw18.OperLower'. -/
def operLowerUptoCard : Claim7 := { stood := { row := operLowerUptoRow, standIns := [], harness := (true, "f3912674dcdda81b802a1dcea0a63c3e984df34a1db26691d2058e72efd053ce"), looks := false }, kinds := [], alts := [], laidByText := true, laidKinds := [.data, .data, .pinned, .pinned, .pinned], laidTests := true, laidLooks := .later }
def OperLowerUptoCardSaid : Prop := Claim7.holds Tryd.pinned (.plain (OpenSpec.upto operLowerSpec)) operLowerUptoCard

/-- THE SECOND FORM's CARD OF 'quilllaw18.OperUpper'. -/
def operUpperUptoCard : Claim7 := { stood := { row := operUpperUptoRow, standIns := [], harness := (true, "f3912674dcdda81b802a1dcea0a63c3e984df34a1db26691d2058e72efd053ce"), looks := false }, kinds := [], alts := [], laidByText := true, laidKinds := [.data, .data, .pinned, .pinned, .pinned], laidTests := true, laidLooks := .later }
def OperUpperUptoCardSaid : Prop := Claim7.holds Tryd.pinned (.plain (OpenSpec.upto operUpperSpec)) operUpperUptoCard

/-- THE SECOND FORM's CARD OF 'quilllaw18.OperTurn'. -/
def operTurnUptoCard : Claim7 := { stood := { row := operTurnUptoRow, standIns := [], harness := (true, "f3912674dcdda81b802a1dcea0a63c3e984df34a1db26691d2058e72efd053ce"), looks := false }, kinds := [], alts := [], laidByText := true, laidKinds := [.data, .data, .pinned, .pinned, .pinned], laidTests := true, laidLooks := .later }
def OperTurnUptoCardSaid : Prop := Claim7.holds Tryd.pinned (.plain (OpenSpec.upto operTurnSpec)) operTurnUptoCard

/-- THE SECOND FORM's CARD OF 'quilllaw18.OperRight'. -/
def operRightUptoCard : Claim7 := { stood := { row := operRightUptoRow, standIns := [], harness := (true, "f3912674dcdda81b802a1dcea0a63c3e984df34a1db26691d2058e72efd053ce"), looks := false }, kinds := [], alts := [], laidByText := true, laidKinds := [.data, .data, .pinned, .pinned, .pinned], laidTests := true, laidLooks := .later }
def OperRightUptoCardSaid : Prop := Claim7.holds Tryd.pinned (.plain (OpenSpec.upto operRightSpec)) operRightUptoCard

/-- THE SECOND FORM's CARD OF 'quilllaw18.OperLeft'. -/
def operLeftUptoCard : Claim7 := { stood := { row := operLeftUptoRow, standIns := [], harness := (true, "f3912674dcdda81b802a1dcea0a63c3e984df34a1db26691d2058e72efd053ce"), looks := false }, kinds := [], alts := [], laidByText := true, laidKinds := [.data, .data, .pinned, .pinned, .pinned], laidTests := true, laidLooks := .later }
def OperLeftUptoCardSaid : Prop := Claim7.holds Tryd.pinned (.plain (OpenSpec.upto operLeftSpec)) operLeftUptoCard

/-- THE SECOND FORM's CARD OF 'quilllaw20.SmallTurns'. -/
def smallTurnsUptoCard : Claim7 := { stood := { row := smallTurnsUptoRow, standIns := [], harness := (true, "f3912674dcdda81b802a1dcea0a63c3e984df34a1db26691d2058e72efd053ce"), looks := false }, kinds := [], alts := [], laidByText := true, laidKinds := [.data, .data, .pinned, .pinned, .pinned], laidTests := true, laidLooks := .later }
def SmallTurnsUptoCardSaid : Prop := Claim7.holds Tryd.pinned (.plain (OpenSpec.upto smallTurnsSpec)) smallTurnsUptoCard

/-- THE SECOND FORM's CARD OF 'quilllaw20.SmallJoins'. -/
def smallJoinsUptoCard : Claim7 := { stood := { row := smallJoinsUptoRow, standIns := [], harness := (true, "f3912674dcdda81b802a1dcea0a63c3e984df34a1db26691d2058e72efd053ce"), looks := false }, kinds := [], alts := [], laidByText := true, laidKinds := [.data, .data, .pinned, .pinned, .pinned], laidTests := true, laidLooks := .later }
def SmallJoinsUptoCardSaid : Prop := Claim7.holds Tryd.pinned (.plain (OpenSpec.upto smallJoinsSpec)) smallJoinsUptoCard

/-- THE SECOND FORM's CARD OF 'quilllaw20.SmallSame'. -/
def smallSameUptoCard : Claim7 := { stood := { row := smallSameUptoRow, standIns := [], harness := (true, "f3912674dcdda81b802a1dcea0a63c3e984df34a1db26691d2058e72efd053ce"), looks := false }, kinds := [], alts := [], laidByText := true, laidKinds := [.data, .data, .pinned, .pinned, .pinned], laidTests := true, laidLooks := .later }
def SmallSameUptoCardSaid : Prop := Claim7.holds Tryd.pinned (.plain (OpenSpec.upto smallSameSpec)) smallSameUptoCard

/-- THE SECOND FORM's CARD OF 'quilllaw20.SmallX'. -/
def smallXUptoCard : Claim7 := { stood := { row := smallXUptoRow, standIns := [], harness := (true, "f3912674dcdda81b802a1dcea0a63c3e984df34a1db26691d2058e72efd053ce"), looks := false }, kinds := [], alts := [], laidByText := true, laidKinds := [.data, .data, .pinned, .pinned, .pinned], laidTests := true, laidLooks := .later }
def SmallXUptoCardSaid : Prop := Claim7.holds Tryd.pinned (.plain (OpenSpec.upto smallXSpec)) smallXUptoCard

/-- THE SECOND FORM's CARD OF 'quilllaw20.SmallR'. -/
def smallRUptoCard : Claim7 := { stood := { row := smallRUptoRow, standIns := [], harness := (true, "f3912674dcdda81b802a1dcea0a63c3e984df34a1db26691d2058e72efd053ce"), looks := false }, kinds := [], alts := [], laidByText := true, laidKinds := [.data, .data, .pinned, .pinned, .pinned], laidTests := true, laidLooks := .later }
def SmallRUptoCardSaid : Prop := Claim7.holds Tryd.pinned (.plain (OpenSpec.upto smallRSpec)) smallRUptoCard

/-- THE SECOND FORM's CARD OF 'quilllaw20.SmallTilde'. -/
def smallTildeUptoCard : Claim7 := { stood := { row := smallTildeUptoRow, standIns := [], harness := (true, "f3912674dcdda81b802a1dcea0a63c3e984df34a1db26691d2058e72efd053ce"), looks := false }, kinds := [], alts := [], laidByText := true, laidKinds := [.data, .data, .pinned, .pinned, .pinned], laidTests := true, laidLooks := .later }
def SmallTildeUptoCardSaid : Prop := Claim7.holds Tryd.pinned (.plain (OpenSpec.upto smallTildeSpec)) smallTildeUptoCard
end Rows
end Go.Proofs.YtleoffdjdgbanaaDoor

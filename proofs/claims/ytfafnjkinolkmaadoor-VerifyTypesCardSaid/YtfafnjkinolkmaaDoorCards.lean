/-
  DERIVED. GIVEN WITH THE SEED: THE CARDS: each row of YtfafnjkinolkmaaDoorRows.lean that lists a variable, with what it lists TIED to the program's text (the seventh form; the later family's looks); each row that meets fmt, with fmt's text TOLD by the authors' own Lean function (tested against real Go, not proved from fmt's source: count such statements apart). THE CARD IS WHAT COUNTS. Prove the row's statement (the work); the ties are given (YtfafnjkinolkmaaDoorTie.lean); close each card by the builder's one call (the guide's Derived/Test/ToyasCard.lean, 'card_holds'). Laid BY PROGRAM, IN A SANDBOX (cutbox-door.mjs). By AI agents, Wed Nov 11 2026. No macro, syntax, notation, axiom, sorry.
-/
import Derived.Test.YtfafnjkinolkmaaDoorRows
import GoSem.ClaimSeven
namespace Go.Proofs.YtfafnjkinolkmaaDoor
namespace Rows

/-- THE TIED CARD OF 'treadwheellaw.CodeChecks'. -/
def codeChecksCard : Claim7 := { stood := { row := codeChecksRow, standIns := [], harness := (true, "2a72443157abd6a18a3324d6f7111c4316e9a5df324ddb1734cb42e568630bfc"), looks := false }, kinds := [], alts := [], laidByText := true, laidKinds := [.data], laidTests := true, laidLooks := .later }
def CodeChecksCardSaid : Prop := Claim7.holds Tryd.pinned (.plain (OpenSpec.ofChange codeChecksSpec)) codeChecksCard

/-- THE TIED CARD OF 'treadwheellaw.CodeEncodes'. -/
def codeEncodesCard : Claim7 := { stood := { row := codeEncodesRow, standIns := [], harness := (true, "2a72443157abd6a18a3324d6f7111c4316e9a5df324ddb1734cb42e568630bfc"), looks := false }, kinds := [], alts := [], laidByText := true, laidKinds := [.data], laidTests := true, laidLooks := .later }
def CodeEncodesCardSaid : Prop := Claim7.holds Tryd.pinned (.plain (OpenSpec.ofChange codeEncodesSpec)) codeEncodesCard

/-- THE TIED CARD OF 'treadwheellaw.CodeDecodes'. -/
def codeDecodesCard : Claim7 := { stood := { row := codeDecodesRow, standIns := [], harness := (true, "2a72443157abd6a18a3324d6f7111c4316e9a5df324ddb1734cb42e568630bfc"), looks := false }, kinds := [], alts := [], laidByText := true, laidKinds := [.data], laidTests := true, laidLooks := .later }
def CodeDecodesCardSaid : Prop := Claim7.holds Tryd.pinned (.plain (OpenSpec.ofChange codeDecodesSpec)) codeDecodesCard

/-- THE TIED CARD OF 'treadwheellaw.VerifyTypes'. -/
def verifyTypesCard : Claim7 := { stood := { row := verifyTypesRow, standIns := [], harness := (true, "2a72443157abd6a18a3324d6f7111c4316e9a5df324ddb1734cb42e568630bfc"), looks := false }, kinds := [], alts := [], laidByText := true, laidKinds := [.data], laidTests := true, laidLooks := .later }
def VerifyTypesCardSaid : Prop := Claim7.holds Tryd.pinned (.plain (OpenSpec.ofChange verifyTypesSpec)) verifyTypesCard

/-- THE TIED CARD OF 'treadwheelkeep.ProgramsOnce'. -/
def programsOnceCard : Claim7 := { stood := { row := programsOnceRow, standIns := [], harness := (true, "2a72443157abd6a18a3324d6f7111c4316e9a5df324ddb1734cb42e568630bfc"), looks := false }, kinds := [], alts := [], laidByText := true, laidKinds := [.data], laidTests := true, laidLooks := .later }
def ProgramsOnceCardSaid : Prop := Claim7.holds Tryd.pinned (.plain (OpenSpec.ofChange programsOnceSpec)) programsOnceCard

/-- THE TIED CARD OF 'treadwheellaw.VerifyChecks'. -/
def verifyChecksCard : Claim7 := { stood := { row := verifyChecksRow, standIns := [], harness := (true, "2a72443157abd6a18a3324d6f7111c4316e9a5df324ddb1734cb42e568630bfc"), looks := false }, kinds := [], alts := [], laidByText := true, laidKinds := [.data], laidTests := true, laidLooks := .later }
def VerifyChecksCardSaid : Prop := Claim7.holds Tryd.pinned (.plain (OpenSpec.ofChange verifyChecksSpec)) verifyChecksCard

/-- THE TIED CARD OF 'treadwheelkeep.TypesKnown'. -/
def typesKnownCard : Claim7 := { stood := { row := typesKnownRow, standIns := [], harness := (true, "2a72443157abd6a18a3324d6f7111c4316e9a5df324ddb1734cb42e568630bfc"), looks := false }, kinds := [], alts := [], laidByText := true, laidKinds := [.data], laidTests := true, laidLooks := .later }
def TypesKnownCardSaid : Prop := Claim7.holds Tryd.pinned (.plain (OpenSpec.ofChange typesKnownSpec)) typesKnownCard

/-- THE TIED CARD OF 'treadwheelkeep.TypesFlow'. -/
def typesFlowCard : Claim7 := { stood := { row := typesFlowRow, standIns := [], harness := (true, "2a72443157abd6a18a3324d6f7111c4316e9a5df324ddb1734cb42e568630bfc"), looks := false }, kinds := [], alts := [], laidByText := true, laidKinds := [.data], laidTests := true, laidLooks := .later }
def TypesFlowCardSaid : Prop := Claim7.holds Tryd.pinned (.plain (OpenSpec.ofChange typesFlowSpec)) typesFlowCard

/-- THE TIED CARD OF 'treadwheellaw.ActorChecks'. -/
def actorChecksCard : Claim7 := { stood := { row := actorChecksRow, standIns := [], harness := (true, "2a72443157abd6a18a3324d6f7111c4316e9a5df324ddb1734cb42e568630bfc"), looks := false }, kinds := [], alts := [], laidByText := true, laidKinds := [.data], laidTests := true, laidLooks := .later }
def ActorChecksCardSaid : Prop := Claim7.holds Tryd.pinned (.plain (OpenSpec.ofChange actorChecksSpec)) actorChecksCard

/-- THE TIED CARD OF 'treadwheellaw.ActorNew'. -/
def actorNewCard : Claim7 := { stood := { row := actorNewRow, standIns := [], harness := (true, "2a72443157abd6a18a3324d6f7111c4316e9a5df324ddb1734cb42e568630bfc"), looks := false }, kinds := [], alts := [], laidByText := true, laidKinds := [.data], laidTests := true, laidLooks := .later }
def ActorNewCardSaid : Prop := Claim7.holds Tryd.pinned (.plain (OpenSpec.ofChange actorNewSpec)) actorNewCard

/-- THE TIED CARD OF 'treadwheelkeep.ProgramsBack'. -/
def programsBackCard : Claim7 := { stood := { row := programsBackRow, standIns := [], harness := (true, "2a72443157abd6a18a3324d6f7111c4316e9a5df324ddb1734cb42e568630bfc"), looks := false }, kinds := [], alts := [], laidByText := true, laidKinds := [.data], laidTests := true, laidLooks := .later }
def ProgramsBackCardSaid : Prop := Claim7.holds Tryd.pinned (.plain (OpenSpec.ofChange programsBackSpec)) programsBackCard

/-- THE TIED CARD OF 'treadwheelkeep.ProgramsBad'. -/
def programsBadCard : Claim7 := { stood := { row := programsBadRow, standIns := [], harness := (true, "2a72443157abd6a18a3324d6f7111c4316e9a5df324ddb1734cb42e568630bfc"), looks := false }, kinds := [], alts := [], laidByText := true, laidKinds := [.data], laidTests := true, laidLooks := .later }
def ProgramsBadCardSaid : Prop := Claim7.holds Tryd.pinned (.plain (OpenSpec.ofChange programsBadSpec)) programsBadCard

/-- THE SECOND FORM's CARD OF 'treadwheellaw.CodeChecks'. -/
def codeChecksUptoCard : Claim7 := { stood := { row := codeChecksUptoRow, standIns := [], harness := (true, "2a72443157abd6a18a3324d6f7111c4316e9a5df324ddb1734cb42e568630bfc"), looks := false }, kinds := [], alts := [], laidByText := true, laidKinds := [.data], laidTests := true, laidLooks := .later }
def CodeChecksUptoCardSaid : Prop := Claim7.holds Tryd.pinned (.plain (OpenSpec.upto codeChecksSpec)) codeChecksUptoCard

/-- THE SECOND FORM's CARD OF 'treadwheellaw.CodeEncodes'. -/
def codeEncodesUptoCard : Claim7 := { stood := { row := codeEncodesUptoRow, standIns := [], harness := (true, "2a72443157abd6a18a3324d6f7111c4316e9a5df324ddb1734cb42e568630bfc"), looks := false }, kinds := [], alts := [], laidByText := true, laidKinds := [.data], laidTests := true, laidLooks := .later }
def CodeEncodesUptoCardSaid : Prop := Claim7.holds Tryd.pinned (.plain (OpenSpec.upto codeEncodesSpec)) codeEncodesUptoCard

/-- THE SECOND FORM's CARD OF 'treadwheellaw.CodeDecodes'. -/
def codeDecodesUptoCard : Claim7 := { stood := { row := codeDecodesUptoRow, standIns := [], harness := (true, "2a72443157abd6a18a3324d6f7111c4316e9a5df324ddb1734cb42e568630bfc"), looks := false }, kinds := [], alts := [], laidByText := true, laidKinds := [.data], laidTests := true, laidLooks := .later }
def CodeDecodesUptoCardSaid : Prop := Claim7.holds Tryd.pinned (.plain (OpenSpec.upto codeDecodesSpec)) codeDecodesUptoCard

/-- THE SECOND FORM's CARD OF 'treadwheellaw.VerifyTypes'. -/
def verifyTypesUptoCard : Claim7 := { stood := { row := verifyTypesUptoRow, standIns := [], harness := (true, "2a72443157abd6a18a3324d6f7111c4316e9a5df324ddb1734cb42e568630bfc"), looks := false }, kinds := [], alts := [], laidByText := true, laidKinds := [.data], laidTests := true, laidLooks := .later }
def VerifyTypesUptoCardSaid : Prop := Claim7.holds Tryd.pinned (.plain (OpenSpec.upto verifyTypesSpec)) verifyTypesUptoCard

/-- THE SECOND FORM's CARD OF 'treadwheelkeep.ProgramsOnce'. -/
def programsOnceUptoCard : Claim7 := { stood := { row := programsOnceUptoRow, standIns := [], harness := (true, "2a72443157abd6a18a3324d6f7111c4316e9a5df324ddb1734cb42e568630bfc"), looks := false }, kinds := [], alts := [], laidByText := true, laidKinds := [.data], laidTests := true, laidLooks := .later }
def ProgramsOnceUptoCardSaid : Prop := Claim7.holds Tryd.pinned (.plain (OpenSpec.upto programsOnceSpec)) programsOnceUptoCard

/-- THE SECOND FORM's CARD OF 'treadwheellaw.VerifyChecks'. -/
def verifyChecksUptoCard : Claim7 := { stood := { row := verifyChecksUptoRow, standIns := [], harness := (true, "2a72443157abd6a18a3324d6f7111c4316e9a5df324ddb1734cb42e568630bfc"), looks := false }, kinds := [], alts := [], laidByText := true, laidKinds := [.data], laidTests := true, laidLooks := .later }
def VerifyChecksUptoCardSaid : Prop := Claim7.holds Tryd.pinned (.plain (OpenSpec.upto verifyChecksSpec)) verifyChecksUptoCard

/-- THE SECOND FORM's CARD OF 'treadwheelkeep.TypesKnown'. -/
def typesKnownUptoCard : Claim7 := { stood := { row := typesKnownUptoRow, standIns := [], harness := (true, "2a72443157abd6a18a3324d6f7111c4316e9a5df324ddb1734cb42e568630bfc"), looks := false }, kinds := [], alts := [], laidByText := true, laidKinds := [.data], laidTests := true, laidLooks := .later }
def TypesKnownUptoCardSaid : Prop := Claim7.holds Tryd.pinned (.plain (OpenSpec.upto typesKnownSpec)) typesKnownUptoCard

/-- THE SECOND FORM's CARD OF 'treadwheelkeep.TypesFlow'. -/
def typesFlowUptoCard : Claim7 := { stood := { row := typesFlowUptoRow, standIns := [], harness := (true, "2a72443157abd6a18a3324d6f7111c4316e9a5df324ddb1734cb42e568630bfc"), looks := false }, kinds := [], alts := [], laidByText := true, laidKinds := [.data], laidTests := true, laidLooks := .later }
def TypesFlowUptoCardSaid : Prop := Claim7.holds Tryd.pinned (.plain (OpenSpec.upto typesFlowSpec)) typesFlowUptoCard

/-- THE SECOND FORM's CARD OF 'treadwheellaw.ActorChecks'. -/
def actorChecksUptoCard : Claim7 := { stood := { row := actorChecksUptoRow, standIns := [], harness := (true, "2a72443157abd6a18a3324d6f7111c4316e9a5df324ddb1734cb42e568630bfc"), looks := false }, kinds := [], alts := [], laidByText := true, laidKinds := [.data], laidTests := true, laidLooks := .later }
def ActorChecksUptoCardSaid : Prop := Claim7.holds Tryd.pinned (.plain (OpenSpec.upto actorChecksSpec)) actorChecksUptoCard

/-- THE SECOND FORM's CARD OF 'treadwheellaw.ActorNew'. -/
def actorNewUptoCard : Claim7 := { stood := { row := actorNewUptoRow, standIns := [], harness := (true, "2a72443157abd6a18a3324d6f7111c4316e9a5df324ddb1734cb42e568630bfc"), looks := false }, kinds := [], alts := [], laidByText := true, laidKinds := [.data], laidTests := true, laidLooks := .later }
def ActorNewUptoCardSaid : Prop := Claim7.holds Tryd.pinned (.plain (OpenSpec.upto actorNewSpec)) actorNewUptoCard

/-- THE SECOND FORM's CARD OF 'treadwheelkeep.ProgramsBack'. -/
def programsBackUptoCard : Claim7 := { stood := { row := programsBackUptoRow, standIns := [], harness := (true, "2a72443157abd6a18a3324d6f7111c4316e9a5df324ddb1734cb42e568630bfc"), looks := false }, kinds := [], alts := [], laidByText := true, laidKinds := [.data], laidTests := true, laidLooks := .later }
def ProgramsBackUptoCardSaid : Prop := Claim7.holds Tryd.pinned (.plain (OpenSpec.upto programsBackSpec)) programsBackUptoCard

/-- THE SECOND FORM's CARD OF 'treadwheelkeep.ProgramsBad'. -/
def programsBadUptoCard : Claim7 := { stood := { row := programsBadUptoRow, standIns := [], harness := (true, "2a72443157abd6a18a3324d6f7111c4316e9a5df324ddb1734cb42e568630bfc"), looks := false }, kinds := [], alts := [], laidByText := true, laidKinds := [.data], laidTests := true, laidLooks := .later }
def ProgramsBadUptoCardSaid : Prop := Claim7.holds Tryd.pinned (.plain (OpenSpec.upto programsBadSpec)) programsBadUptoCard
end Rows
end Go.Proofs.YtfafnjkinolkmaaDoor

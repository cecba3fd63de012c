/-
  DERIVED. GIVEN WITH THE SEED: THE CARDS: each row of YtmgbhhabdapniaaGreatDoorRows.lean that lists a variable, with what it lists TIED to the program's text (the seventh form; the later family's looks); each row that meets fmt, with fmt's text TOLD by the authors' own Lean function (tested against real Go, not proved from fmt's source: count such statements apart). THE CARD IS WHAT COUNTS. Prove the row's statement (the work); the ties are given (YtmgbhhabdapniaaGreatDoorTie.lean); close each card by the builder's one call (the guide's Derived/Test/ToyasCard.lean, 'card_holds'). Laid BY PROGRAM, IN A SANDBOX (cutbox-door.mjs). By AI agents, Wed Nov 11 2026. No macro, syntax, notation, axiom, sorry.
-/
import Derived.Test.YtmgbhhabdapniaaGreatDoorRows
import GoSem.ClaimSeven
namespace Go.Proofs.YtmgbhhabdapniaaGreatDoor
namespace Rows

/-- THE TIED CARD OF 'treadwheellaw.ActorRuns'. -/
def actorRunsCard : Claim7 := { stood := { row := actorRunsRow, standIns := [], harness := (true, "e0395d36707c0c7fca39a3f33ef1342bfe9b7cef319c5786ceeed6c1ecdc0463"), looks := false }, kinds := [], alts := [], laidByText := true, laidKinds := [.data], laidTests := true, laidLooks := .later }
def ActorRunsCardSaid : Prop := Claim7.holds Tryz.pinned (.plain (OpenSpec.ofChange actorRunsSpec)) actorRunsCard

/-- THE TIED CARD OF 'treadwheellaw.ActorDoes'. -/
def actorDoesCard : Claim7 := { stood := { row := actorDoesRow, standIns := [], harness := (true, "e0395d36707c0c7fca39a3f33ef1342bfe9b7cef319c5786ceeed6c1ecdc0463"), looks := false }, kinds := [], alts := [], laidByText := true, laidKinds := [.data], laidTests := true, laidLooks := .later }
def ActorDoesCardSaid : Prop := Claim7.holds Tryz.pinned (.plain (OpenSpec.ofChange actorDoesSpec)) actorDoesCard

/-- THE TIED CARD OF 'treadwheeltop.TopAlone'. -/
def topAloneCard : Claim7 := { stood := { row := topAloneRow, standIns := [], harness := (true, "e0395d36707c0c7fca39a3f33ef1342bfe9b7cef319c5786ceeed6c1ecdc0463"), looks := false }, kinds := [], alts := [], laidByText := true, laidKinds := [.data], laidTests := true, laidLooks := .later }
def TopAloneCardSaid : Prop := Claim7.holds Tryz.pinned (.plain (OpenSpec.ofChange topAloneSpec)) topAloneCard

/-- THE TIED CARD OF 'treadwheeltop.TopSteps'. -/
def topStepsCard : Claim7 := { stood := { row := topStepsRow, standIns := [], harness := (true, "e0395d36707c0c7fca39a3f33ef1342bfe9b7cef319c5786ceeed6c1ecdc0463"), looks := false }, kinds := [], alts := [], laidByText := true, laidKinds := [.data], laidTests := true, laidLooks := .later }
def TopStepsCardSaid : Prop := Claim7.holds Tryz.pinned (.plain (OpenSpec.ofChange topStepsSpec)) topStepsCard

/-- THE TIED CARD OF 'treadwheeltop.TopEnded'. -/
def topEndedCard : Claim7 := { stood := { row := topEndedRow, standIns := [], harness := (true, "e0395d36707c0c7fca39a3f33ef1342bfe9b7cef319c5786ceeed6c1ecdc0463"), looks := false }, kinds := [], alts := [], laidByText := true, laidKinds := [.data], laidTests := true, laidLooks := .later }
def TopEndedCardSaid : Prop := Claim7.holds Tryz.pinned (.plain (OpenSpec.ofChange topEndedSpec)) topEndedCard

/-- THE TIED CARD OF 'treadwheeltop.TopSwap'. -/
def topSwapCard : Claim7 := { stood := { row := topSwapRow, standIns := [], harness := (true, "e0395d36707c0c7fca39a3f33ef1342bfe9b7cef319c5786ceeed6c1ecdc0463"), looks := false }, kinds := [], alts := [], laidByText := true, laidKinds := [.data], laidTests := true, laidLooks := .later }
def TopSwapCardSaid : Prop := Claim7.holds Tryz.pinned (.plain (OpenSpec.ofChange topSwapSpec)) topSwapCard

/-- THE TIED CARD OF 'treadwheeltop.TopBytes'. -/
def topBytesCard : Claim7 := { stood := { row := topBytesRow, standIns := [], harness := (true, "e0395d36707c0c7fca39a3f33ef1342bfe9b7cef319c5786ceeed6c1ecdc0463"), looks := false }, kinds := [], alts := [], laidByText := true, laidKinds := [.data], laidTests := true, laidLooks := .later }
def TopBytesCardSaid : Prop := Claim7.holds Tryz.pinned (.plain (OpenSpec.ofChange topBytesSpec)) topBytesCard

/-- THE SECOND FORM's CARD OF 'treadwheellaw.ActorRuns'. -/
def actorRunsUptoCard : Claim7 := { stood := { row := actorRunsUptoRow, standIns := [], harness := (true, "e0395d36707c0c7fca39a3f33ef1342bfe9b7cef319c5786ceeed6c1ecdc0463"), looks := false }, kinds := [], alts := [], laidByText := true, laidKinds := [.data], laidTests := true, laidLooks := .later }
def ActorRunsUptoCardSaid : Prop := Claim7.holds Tryz.pinned (.plain (OpenSpec.upto actorRunsSpec)) actorRunsUptoCard

/-- THE SECOND FORM's CARD OF 'treadwheellaw.ActorDoes'. -/
def actorDoesUptoCard : Claim7 := { stood := { row := actorDoesUptoRow, standIns := [], harness := (true, "e0395d36707c0c7fca39a3f33ef1342bfe9b7cef319c5786ceeed6c1ecdc0463"), looks := false }, kinds := [], alts := [], laidByText := true, laidKinds := [.data], laidTests := true, laidLooks := .later }
def ActorDoesUptoCardSaid : Prop := Claim7.holds Tryz.pinned (.plain (OpenSpec.upto actorDoesSpec)) actorDoesUptoCard

/-- THE SECOND FORM's CARD OF 'treadwheeltop.TopAlone'. -/
def topAloneUptoCard : Claim7 := { stood := { row := topAloneUptoRow, standIns := [], harness := (true, "e0395d36707c0c7fca39a3f33ef1342bfe9b7cef319c5786ceeed6c1ecdc0463"), looks := false }, kinds := [], alts := [], laidByText := true, laidKinds := [.data], laidTests := true, laidLooks := .later }
def TopAloneUptoCardSaid : Prop := Claim7.holds Tryz.pinned (.plain (OpenSpec.upto topAloneSpec)) topAloneUptoCard

/-- THE SECOND FORM's CARD OF 'treadwheeltop.TopSteps'. -/
def topStepsUptoCard : Claim7 := { stood := { row := topStepsUptoRow, standIns := [], harness := (true, "e0395d36707c0c7fca39a3f33ef1342bfe9b7cef319c5786ceeed6c1ecdc0463"), looks := false }, kinds := [], alts := [], laidByText := true, laidKinds := [.data], laidTests := true, laidLooks := .later }
def TopStepsUptoCardSaid : Prop := Claim7.holds Tryz.pinned (.plain (OpenSpec.upto topStepsSpec)) topStepsUptoCard

/-- THE SECOND FORM's CARD OF 'treadwheeltop.TopEnded'. -/
def topEndedUptoCard : Claim7 := { stood := { row := topEndedUptoRow, standIns := [], harness := (true, "e0395d36707c0c7fca39a3f33ef1342bfe9b7cef319c5786ceeed6c1ecdc0463"), looks := false }, kinds := [], alts := [], laidByText := true, laidKinds := [.data], laidTests := true, laidLooks := .later }
def TopEndedUptoCardSaid : Prop := Claim7.holds Tryz.pinned (.plain (OpenSpec.upto topEndedSpec)) topEndedUptoCard

/-- THE SECOND FORM's CARD OF 'treadwheeltop.TopSwap'. -/
def topSwapUptoCard : Claim7 := { stood := { row := topSwapUptoRow, standIns := [], harness := (true, "e0395d36707c0c7fca39a3f33ef1342bfe9b7cef319c5786ceeed6c1ecdc0463"), looks := false }, kinds := [], alts := [], laidByText := true, laidKinds := [.data], laidTests := true, laidLooks := .later }
def TopSwapUptoCardSaid : Prop := Claim7.holds Tryz.pinned (.plain (OpenSpec.upto topSwapSpec)) topSwapUptoCard

/-- THE SECOND FORM's CARD OF 'treadwheeltop.TopBytes'. -/
def topBytesUptoCard : Claim7 := { stood := { row := topBytesUptoRow, standIns := [], harness := (true, "e0395d36707c0c7fca39a3f33ef1342bfe9b7cef319c5786ceeed6c1ecdc0463"), looks := false }, kinds := [], alts := [], laidByText := true, laidKinds := [.data], laidTests := true, laidLooks := .later }
def TopBytesUptoCardSaid : Prop := Claim7.holds Tryz.pinned (.plain (OpenSpec.upto topBytesSpec)) topBytesUptoCard
end Rows
end Go.Proofs.YtmgbhhabdapniaaGreatDoor

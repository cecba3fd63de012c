/-
  DERIVED. GIVEN WITH THE SEED: THE CARDS: each row of YtdmocjnjbihloaaDoorRows.lean that lists a variable, with what it lists TIED to the program's text (the seventh form; the later family's looks); each row that meets fmt, with fmt's text TOLD by the authors' own Lean function (tested against real Go, not proved from fmt's source: count such statements apart). THE CARD IS WHAT COUNTS. Prove the row's statement (the work); the ties are given (YtdmocjnjbihloaaDoorTie.lean); close each card by the builder's one call (the guide's Derived/Test/ToyasCard.lean, 'card_holds'). Laid BY PROGRAM, IN A SANDBOX (cutbox-door.mjs). By AI agents, Wed Nov 11 2026. No macro, syntax, notation, axiom, sorry.
-/
import Derived.Test.YtdmocjnjbihloaaDoorRows
import GoSem.ClaimSeven
namespace Go.Proofs.YtdmocjnjbihloaaDoor
namespace Rows

/-- THE TIED CARD OF 'treadwheeltop.TopUnique'. -/
def topUniqueCard : Claim7 := { stood := { row := topUniqueRow, standIns := [], harness := (true, "6af5eb576f1cf0f720b982f60a1db8a8126b4d94f5bb3789330f566cb63f82ec"), looks := false }, kinds := [], alts := [], laidByText := true, laidKinds := [.data], laidTests := true, laidLooks := .later }
def TopUniqueCardSaid : Prop := Claim7.holds Tryd.pinned (.plain (OpenSpec.ofChange topUniqueSpec)) topUniqueCard

/-- THE TIED CARD OF 'treadwheeltop.TopClear'. -/
def topClearCard : Claim7 := { stood := { row := topClearRow, standIns := [], harness := (true, "6af5eb576f1cf0f720b982f60a1db8a8126b4d94f5bb3789330f566cb63f82ec"), looks := false }, kinds := [], alts := [], laidByText := true, laidKinds := [.data], laidTests := true, laidLooks := .later }
def TopClearCardSaid : Prop := Claim7.holds Tryd.pinned (.plain (OpenSpec.ofChange topClearSpec)) topClearCard

/-- THE TIED CARD OF 'treadwheelkeep.ProgramsBad'. -/
def programsBadCard : Claim7 := { stood := { row := programsBadRow, standIns := [], harness := (true, "6af5eb576f1cf0f720b982f60a1db8a8126b4d94f5bb3789330f566cb63f82ec"), looks := false }, kinds := [], alts := [], laidByText := true, laidKinds := [.data], laidTests := true, laidLooks := .later }
def ProgramsBadCardSaid : Prop := Claim7.holds Tryd.pinned (.plain (OpenSpec.ofChange programsBadSpec)) programsBadCard

/-- THE TIED CARD OF 'treadwheelkeep.ParentsTold'. -/
def parentsToldCard : Claim7 := { stood := { row := parentsToldRow, standIns := [], harness := (true, "6af5eb576f1cf0f720b982f60a1db8a8126b4d94f5bb3789330f566cb63f82ec"), looks := false }, kinds := [], alts := [], laidByText := true, laidKinds := [.data], laidTests := true, laidLooks := .later }
def ParentsToldCardSaid : Prop := Claim7.holds Tryd.pinned (.plain (OpenSpec.ofChange parentsToldSpec)) parentsToldCard

/-- THE TIED CARD OF 'treadwheelkeep.EchoTells'. -/
def echoTellsCard : Claim7 := { stood := { row := echoTellsRow, standIns := [], harness := (true, "6af5eb576f1cf0f720b982f60a1db8a8126b4d94f5bb3789330f566cb63f82ec"), looks := false }, kinds := [], alts := [], laidByText := true, laidKinds := [.data], laidTests := true, laidLooks := .later }
def EchoTellsCardSaid : Prop := Claim7.holds Tryd.pinned (.plain (OpenSpec.ofChange echoTellsSpec)) echoTellsCard

/-- THE TIED CARD OF 'treadwheelkeep.BoxesFull'. -/
def boxesFullCard : Claim7 := { stood := { row := boxesFullRow, standIns := [], harness := (true, "6af5eb576f1cf0f720b982f60a1db8a8126b4d94f5bb3789330f566cb63f82ec"), looks := false }, kinds := [], alts := [], laidByText := true, laidKinds := [.data], laidTests := true, laidLooks := .later }
def BoxesFullCardSaid : Prop := Claim7.holds Tryd.pinned (.plain (OpenSpec.ofChange boxesFullSpec)) boxesFullCard

/-- THE TIED CARD OF 'treadwheelkeep.WorldsGood'. -/
def worldsGoodCard : Claim7 := { stood := { row := worldsGoodRow, standIns := [], harness := (true, "6af5eb576f1cf0f720b982f60a1db8a8126b4d94f5bb3789330f566cb63f82ec"), looks := false }, kinds := [], alts := [], laidByText := true, laidKinds := [.data], laidTests := true, laidLooks := .later }
def WorldsGoodCardSaid : Prop := Claim7.holds Tryd.pinned (.plain (OpenSpec.ofChange worldsGoodSpec)) worldsGoodCard

/-- THE TIED CARD OF 'treadwheeltop.TopTwice'. -/
def topTwiceCard : Claim7 := { stood := { row := topTwiceRow, standIns := [], harness := (true, "6af5eb576f1cf0f720b982f60a1db8a8126b4d94f5bb3789330f566cb63f82ec"), looks := false }, kinds := [], alts := [], laidByText := true, laidKinds := [.data], laidTests := true, laidLooks := .later }
def TopTwiceCardSaid : Prop := Claim7.holds Tryd.pinned (.plain (OpenSpec.ofChange topTwiceSpec)) topTwiceCard

/-- THE TIED CARD OF 'treadwheeltop.TopSound'. -/
def topSoundCard : Claim7 := { stood := { row := topSoundRow, standIns := [], harness := (true, "6af5eb576f1cf0f720b982f60a1db8a8126b4d94f5bb3789330f566cb63f82ec"), looks := false }, kinds := [], alts := [], laidByText := true, laidKinds := [.data], laidTests := true, laidLooks := .later }
def TopSoundCardSaid : Prop := Claim7.holds Tryd.pinned (.plain (OpenSpec.ofChange topSoundSpec)) topSoundCard

/-- THE SECOND FORM's CARD OF 'treadwheeltop.TopUnique'. -/
def topUniqueUptoCard : Claim7 := { stood := { row := topUniqueUptoRow, standIns := [], harness := (true, "6af5eb576f1cf0f720b982f60a1db8a8126b4d94f5bb3789330f566cb63f82ec"), looks := false }, kinds := [], alts := [], laidByText := true, laidKinds := [.data], laidTests := true, laidLooks := .later }
def TopUniqueUptoCardSaid : Prop := Claim7.holds Tryd.pinned (.plain (OpenSpec.upto topUniqueSpec)) topUniqueUptoCard

/-- THE SECOND FORM's CARD OF 'treadwheeltop.TopClear'. -/
def topClearUptoCard : Claim7 := { stood := { row := topClearUptoRow, standIns := [], harness := (true, "6af5eb576f1cf0f720b982f60a1db8a8126b4d94f5bb3789330f566cb63f82ec"), looks := false }, kinds := [], alts := [], laidByText := true, laidKinds := [.data], laidTests := true, laidLooks := .later }
def TopClearUptoCardSaid : Prop := Claim7.holds Tryd.pinned (.plain (OpenSpec.upto topClearSpec)) topClearUptoCard

/-- THE SECOND FORM's CARD OF 'treadwheelkeep.ProgramsBad'. -/
def programsBadUptoCard : Claim7 := { stood := { row := programsBadUptoRow, standIns := [], harness := (true, "6af5eb576f1cf0f720b982f60a1db8a8126b4d94f5bb3789330f566cb63f82ec"), looks := false }, kinds := [], alts := [], laidByText := true, laidKinds := [.data], laidTests := true, laidLooks := .later }
def ProgramsBadUptoCardSaid : Prop := Claim7.holds Tryd.pinned (.plain (OpenSpec.upto programsBadSpec)) programsBadUptoCard

/-- THE SECOND FORM's CARD OF 'treadwheelkeep.ParentsTold'. -/
def parentsToldUptoCard : Claim7 := { stood := { row := parentsToldUptoRow, standIns := [], harness := (true, "6af5eb576f1cf0f720b982f60a1db8a8126b4d94f5bb3789330f566cb63f82ec"), looks := false }, kinds := [], alts := [], laidByText := true, laidKinds := [.data], laidTests := true, laidLooks := .later }
def ParentsToldUptoCardSaid : Prop := Claim7.holds Tryd.pinned (.plain (OpenSpec.upto parentsToldSpec)) parentsToldUptoCard

/-- THE SECOND FORM's CARD OF 'treadwheelkeep.EchoTells'. -/
def echoTellsUptoCard : Claim7 := { stood := { row := echoTellsUptoRow, standIns := [], harness := (true, "6af5eb576f1cf0f720b982f60a1db8a8126b4d94f5bb3789330f566cb63f82ec"), looks := false }, kinds := [], alts := [], laidByText := true, laidKinds := [.data], laidTests := true, laidLooks := .later }
def EchoTellsUptoCardSaid : Prop := Claim7.holds Tryd.pinned (.plain (OpenSpec.upto echoTellsSpec)) echoTellsUptoCard

/-- THE SECOND FORM's CARD OF 'treadwheelkeep.BoxesFull'. -/
def boxesFullUptoCard : Claim7 := { stood := { row := boxesFullUptoRow, standIns := [], harness := (true, "6af5eb576f1cf0f720b982f60a1db8a8126b4d94f5bb3789330f566cb63f82ec"), looks := false }, kinds := [], alts := [], laidByText := true, laidKinds := [.data], laidTests := true, laidLooks := .later }
def BoxesFullUptoCardSaid : Prop := Claim7.holds Tryd.pinned (.plain (OpenSpec.upto boxesFullSpec)) boxesFullUptoCard

/-- THE SECOND FORM's CARD OF 'treadwheelkeep.WorldsGood'. -/
def worldsGoodUptoCard : Claim7 := { stood := { row := worldsGoodUptoRow, standIns := [], harness := (true, "6af5eb576f1cf0f720b982f60a1db8a8126b4d94f5bb3789330f566cb63f82ec"), looks := false }, kinds := [], alts := [], laidByText := true, laidKinds := [.data], laidTests := true, laidLooks := .later }
def WorldsGoodUptoCardSaid : Prop := Claim7.holds Tryd.pinned (.plain (OpenSpec.upto worldsGoodSpec)) worldsGoodUptoCard

/-- THE SECOND FORM's CARD OF 'treadwheeltop.TopTwice'. -/
def topTwiceUptoCard : Claim7 := { stood := { row := topTwiceUptoRow, standIns := [], harness := (true, "6af5eb576f1cf0f720b982f60a1db8a8126b4d94f5bb3789330f566cb63f82ec"), looks := false }, kinds := [], alts := [], laidByText := true, laidKinds := [.data], laidTests := true, laidLooks := .later }
def TopTwiceUptoCardSaid : Prop := Claim7.holds Tryd.pinned (.plain (OpenSpec.upto topTwiceSpec)) topTwiceUptoCard

/-- THE SECOND FORM's CARD OF 'treadwheeltop.TopSound'. -/
def topSoundUptoCard : Claim7 := { stood := { row := topSoundUptoRow, standIns := [], harness := (true, "6af5eb576f1cf0f720b982f60a1db8a8126b4d94f5bb3789330f566cb63f82ec"), looks := false }, kinds := [], alts := [], laidByText := true, laidKinds := [.data], laidTests := true, laidLooks := .later }
def TopSoundUptoCardSaid : Prop := Claim7.holds Tryd.pinned (.plain (OpenSpec.upto topSoundSpec)) topSoundUptoCard
end Rows
end Go.Proofs.YtdmocjnjbihloaaDoor

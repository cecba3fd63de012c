/-
  NARROWER THAN 'FOR EVERY INPUT', by the rows' own cells (each row's printed sentence says how): ActorRuns: laid · ActorDoes: laid · TopAlone: laid · TopSteps: laid · TopEnded: laid · TopSwap: laid · TopBytes: laid.
  DERIVED. THE GIVEN ROWS OF THIS SEAT. 7 by the template 'for every input the law returns true; each argument reads behind the call as it read before'; 0 by the template 'total and deterministic' (their statements: YtmgbhhabdapniaaGreatDoorTotals.lean).
  GIVEN WITH THE SEED: the statements are not yours to turn. If you find one false, say at which input.
  Laid BY PROGRAM, IN A SANDBOX (cutbox-rows.mjs): the forced cells as the released guide's own fill.sh prints them over the translation 0a095454adedd104… (all of the seat's roots in one cut). By AI agents, Wed Nov 11 2026. No macro, syntax, notation, axiom, sorry.
-/
import Derived.Test.YtmgbhhabdapniaaGreatDoorChecked
import GoSem.Claim
import GoSem.ClaimJoined
import GoSem.ClaimMapViews
import Derived.JoinedTies
import Derived.KernelRfl
namespace Go.Proofs.YtmgbhhabdapniaaGreatDoor
/- THE CELL 'sum', in the pinned program and in every row, IS THE sha256 OF THE DUMP (.gsa) THAT YtmgbhhabdapniaaGreatDoorProg.lean LOADS. Nothing in Lean hashes anything: it is a label: what it is worth is what the hold of that sum in a sandbox is worth. -/
noncomputable def Tryz.pinned : Pinned := { name := "ytmgbhhabdapniaagreatdoor", sum := "0a095454adedd1049b58956d5070c297560887b1d0667b406b49b159a860b18b", checked := Tryz.checked }
namespace Rows
def none {H : Type} : Left H := { results := [], args := [] }

/- WHAT THE LISTED PACKAGE-LEVEL VARIABLES READ AS WHEN THE CALL BEGINS. Each datum BY PROGRAM (the guide's laid-datum.mjs) off the statement by which the dump's own 'gosem.cut.vars' lays the variable. In a bare row this is a premise. The card (YtmgbhhabdapniaaGreatDoorCards.lean) ties it to the program's text. -/
def laid_treadwheel_code_uses {H : Type} : DataW H := .agg [.lit (.int .i64 0), .lit (.int .i64 5), .lit (.int .i64 3), .lit (.int .i64 3), .lit (.int .i64 3), .lit (.int .i64 5), .lit (.int .i64 4), .lit (.int .i64 5), .lit (.int .i64 7), .lit (.int .i64 7), .lit (.int .i64 7), .lit (.int .i64 7), .lit (.int .i64 3), .lit (.int .i64 3), .lit (.int .i64 3), .lit (.int .i64 1), .lit (.int .i64 1), .lit (.int .i64 7), .lit (.int .i64 1), .lit (.int .i64 0)]

/-- 'treadwheellaw.ActorRuns': WHATEVER THE INPUT: true; the input reads as it did. -/
def actorRunsSpec : ChangeSpec := { name := "actorRuns", fn := fun _ => fun
  | [d1, d2, d3] => { results := [.lit (.bool true)], args := [d1, d2, d3] }
  | _ => none }
def actorRunsRow : OpenClaim := { program := "ytmgbhhabdapniaagreatdoor", sum := "0a095454adedd1049b58956d5070c297560887b1d0667b406b49b159a860b18b", func := "treadwheel/treadwheellaw.ActorRuns", spec := "actorRuns", unfollowed := true, recurses := true, named := ["treadwheel/code.uses"], apart := false, laid := [("treadwheel/code.uses", laid_treadwheel_code_uses)] }
def ActorRunsSaid : Prop := actorRunsRow.holds Tryz.pinned (OpenSpec.ofChange actorRunsSpec)

/-- ITS FALSE NEIGHBOUR: 'it returns false'. Refute it at one input. -/
def actorRunsWrong : ChangeSpec := { name := "actorRuns", fn := fun _ => fun
  | [d1, d2, d3] => { results := [.lit (.bool false)], args := [d1, d2, d3] }
  | _ => none }
def ActorRunsWrongFalsely : Prop := actorRunsRow.holds Tryz.pinned (OpenSpec.ofChange actorRunsWrong)

/-- 'treadwheellaw.ActorDoes': WHATEVER THE INPUT: true; the input reads as it did. -/
def actorDoesSpec : ChangeSpec := { name := "actorDoes", fn := fun _ => fun
  | [d1, d2, d3] => { results := [.lit (.bool true)], args := [d1, d2, d3] }
  | _ => none }
def actorDoesRow : OpenClaim := { program := "ytmgbhhabdapniaagreatdoor", sum := "0a095454adedd1049b58956d5070c297560887b1d0667b406b49b159a860b18b", func := "treadwheel/treadwheellaw.ActorDoes", spec := "actorDoes", unfollowed := true, recurses := true, named := ["treadwheel/code.uses"], apart := false, laid := [("treadwheel/code.uses", laid_treadwheel_code_uses)] }
def ActorDoesSaid : Prop := actorDoesRow.holds Tryz.pinned (OpenSpec.ofChange actorDoesSpec)

/-- ITS FALSE NEIGHBOUR: 'it returns false'. Refute it at one input. -/
def actorDoesWrong : ChangeSpec := { name := "actorDoes", fn := fun _ => fun
  | [d1, d2, d3] => { results := [.lit (.bool false)], args := [d1, d2, d3] }
  | _ => none }
def ActorDoesWrongFalsely : Prop := actorDoesRow.holds Tryz.pinned (OpenSpec.ofChange actorDoesWrong)

/-- 'treadwheeltop.TopAlone': WHATEVER THE INPUT: true; the input reads as it did. -/
def topAloneSpec : ChangeSpec := { name := "topAlone", fn := fun _ => fun
  | [d1, d2, d3, d4] => { results := [.lit (.bool true)], args := [d1, d2, d3, d4] }
  | _ => none }
def topAloneRow : OpenClaim := { program := "ytmgbhhabdapniaagreatdoor", sum := "0a095454adedd1049b58956d5070c297560887b1d0667b406b49b159a860b18b", func := "treadwheel/treadwheeltop.TopAlone", spec := "topAlone", unfollowed := true, recurses := true, named := ["treadwheel/code.uses"], apart := false, laid := [("treadwheel/code.uses", laid_treadwheel_code_uses)] }
def TopAloneSaid : Prop := topAloneRow.holds Tryz.pinned (OpenSpec.ofChange topAloneSpec)

/-- ITS FALSE NEIGHBOUR: 'it returns false'. Refute it at one input. -/
def topAloneWrong : ChangeSpec := { name := "topAlone", fn := fun _ => fun
  | [d1, d2, d3, d4] => { results := [.lit (.bool false)], args := [d1, d2, d3, d4] }
  | _ => none }
def TopAloneWrongFalsely : Prop := topAloneRow.holds Tryz.pinned (OpenSpec.ofChange topAloneWrong)

/-- 'treadwheeltop.TopSteps': WHATEVER THE INPUT: true; the input reads as it did. -/
def topStepsSpec : ChangeSpec := { name := "topSteps", fn := fun _ => fun
  | [d1, d2, d3] => { results := [.lit (.bool true)], args := [d1, d2, d3] }
  | _ => none }
def topStepsRow : OpenClaim := { program := "ytmgbhhabdapniaagreatdoor", sum := "0a095454adedd1049b58956d5070c297560887b1d0667b406b49b159a860b18b", func := "treadwheel/treadwheeltop.TopSteps", spec := "topSteps", unfollowed := true, recurses := true, named := ["treadwheel/code.uses"], apart := false, laid := [("treadwheel/code.uses", laid_treadwheel_code_uses)] }
def TopStepsSaid : Prop := topStepsRow.holds Tryz.pinned (OpenSpec.ofChange topStepsSpec)

/-- ITS FALSE NEIGHBOUR: 'it returns false'. Refute it at one input. -/
def topStepsWrong : ChangeSpec := { name := "topSteps", fn := fun _ => fun
  | [d1, d2, d3] => { results := [.lit (.bool false)], args := [d1, d2, d3] }
  | _ => none }
def TopStepsWrongFalsely : Prop := topStepsRow.holds Tryz.pinned (OpenSpec.ofChange topStepsWrong)

/-- 'treadwheeltop.TopEnded': WHATEVER THE INPUT: true; the input reads as it did. -/
def topEndedSpec : ChangeSpec := { name := "topEnded", fn := fun _ => fun
  | [d1, d2, d3, d4, d5] => { results := [.lit (.bool true)], args := [d1, d2, d3, d4, d5] }
  | _ => none }
def topEndedRow : OpenClaim := { program := "ytmgbhhabdapniaagreatdoor", sum := "0a095454adedd1049b58956d5070c297560887b1d0667b406b49b159a860b18b", func := "treadwheel/treadwheeltop.TopEnded", spec := "topEnded", unfollowed := true, recurses := true, named := ["treadwheel/code.uses"], apart := false, laid := [("treadwheel/code.uses", laid_treadwheel_code_uses)] }
def TopEndedSaid : Prop := topEndedRow.holds Tryz.pinned (OpenSpec.ofChange topEndedSpec)

/-- ITS FALSE NEIGHBOUR: 'it returns false'. Refute it at one input. -/
def topEndedWrong : ChangeSpec := { name := "topEnded", fn := fun _ => fun
  | [d1, d2, d3, d4, d5] => { results := [.lit (.bool false)], args := [d1, d2, d3, d4, d5] }
  | _ => none }
def TopEndedWrongFalsely : Prop := topEndedRow.holds Tryz.pinned (OpenSpec.ofChange topEndedWrong)

/-- 'treadwheeltop.TopSwap': WHATEVER THE INPUT: true; the input reads as it did. -/
def topSwapSpec : ChangeSpec := { name := "topSwap", fn := fun _ => fun
  | [d1, d2, d3, d4, d5] => { results := [.lit (.bool true)], args := [d1, d2, d3, d4, d5] }
  | _ => none }
def topSwapRow : OpenClaim := { program := "ytmgbhhabdapniaagreatdoor", sum := "0a095454adedd1049b58956d5070c297560887b1d0667b406b49b159a860b18b", func := "treadwheel/treadwheeltop.TopSwap", spec := "topSwap", unfollowed := true, recurses := true, named := ["treadwheel/code.uses"], apart := false, laid := [("treadwheel/code.uses", laid_treadwheel_code_uses)] }
def TopSwapSaid : Prop := topSwapRow.holds Tryz.pinned (OpenSpec.ofChange topSwapSpec)

/-- ITS FALSE NEIGHBOUR: 'it returns false'. Refute it at one input. -/
def topSwapWrong : ChangeSpec := { name := "topSwap", fn := fun _ => fun
  | [d1, d2, d3, d4, d5] => { results := [.lit (.bool false)], args := [d1, d2, d3, d4, d5] }
  | _ => none }
def TopSwapWrongFalsely : Prop := topSwapRow.holds Tryz.pinned (OpenSpec.ofChange topSwapWrong)

/-- 'treadwheeltop.TopBytes': WHATEVER THE INPUT: true; the input reads as it did. -/
def topBytesSpec : ChangeSpec := { name := "topBytes", fn := fun _ => fun
  | [d1, d2, d3] => { results := [.lit (.bool true)], args := [d1, d2, d3] }
  | _ => none }
def topBytesRow : OpenClaim := { program := "ytmgbhhabdapniaagreatdoor", sum := "0a095454adedd1049b58956d5070c297560887b1d0667b406b49b159a860b18b", func := "treadwheel/treadwheeltop.TopBytes", spec := "topBytes", unfollowed := true, recurses := true, named := ["treadwheel/code.uses"], apart := false, laid := [("treadwheel/code.uses", laid_treadwheel_code_uses)] }
def TopBytesSaid : Prop := topBytesRow.holds Tryz.pinned (OpenSpec.ofChange topBytesSpec)

/-- ITS FALSE NEIGHBOUR: 'it returns false'. Refute it at one input. -/
def topBytesWrong : ChangeSpec := { name := "topBytes", fn := fun _ => fun
  | [d1, d2, d3] => { results := [.lit (.bool false)], args := [d1, d2, d3] }
  | _ => none }
def TopBytesWrongFalsely : Prop := topBytesRow.holds Tryz.pinned (OpenSpec.ofChange topBytesWrong)

/- THE SECOND FORM. 'bulk': how many values and letters a reading holds, each counted each time it is reached (what is shared counts as often as it is met; a slice's spare places count too). A statement '..UptoSaid' is the law's where the arguments, and the package variables that the reading takes, are together of bulk at most 1048576: NARROWER than '..Said'. Prove '..Said' where nothing that the law and all that it calls make is longer than what came in: it says more and counts as full. Else prove '..UptoSaid'. A law counts once. -/
mutual
def uptoBulk {H : Type} : DataW H → Nat
  | .lit (.string bytes) => bytes.length + 1
  | .lit _ => 1
  | .nil => 1
  | .ptr d => uptoBulk d + 1
  | .slice elems spare => uptoBulkAll elems + uptoBulkAll spare + 1
  | .agg parts => uptoBulkAll parts + 1
  | .iface _ d => uptoBulk d + 1
  | .map entries => uptoBulkEntries entries + 1
  | .held _ => 1
def uptoBulkAll {H : Type} : List (DataW H) → Nat
  | [] => 0
  | d :: r => uptoBulk d + uptoBulkAll r
def uptoBulkEntries {H : Type} : List (Lit × DataW H) → Nat
  | [] => 0
  | x :: r => uptoBulkEntry x + uptoBulkEntries r
def uptoBulkEntry {H : Type} : Lit × DataW H → Nat
  | (.string bytes, d) => bytes.length + uptoBulk d + 1
  | (_, d) => uptoBulk d + 1
 end
def uptoSmall : (H : Type) → List (DataW H) → Bool := fun _ ds => decide (uptoBulkAll ds ≤ 1048576)
def OpenSpec.upto (s : _root_.Go.ChangeSpec) : _root_.Go.OpenSpec := { _root_.Go.OpenSpec.ofChange s with cond := some uptoSmall }

/-- 'treadwheellaw.ActorRuns', WHERE WHAT IT READS IS OF BULK AT MOST 1048576: true; the input reads as it did. -/
def actorRunsUptoRow : OpenClaim := { program := "ytmgbhhabdapniaagreatdoor", sum := "0a095454adedd1049b58956d5070c297560887b1d0667b406b49b159a860b18b", func := "treadwheel/treadwheellaw.ActorRuns", spec := "actorRuns", unfollowed := true, recurses := true, named := ["treadwheel/code.uses"], apart := false, laid := [("treadwheel/code.uses", laid_treadwheel_code_uses)], narrowed := true }
def ActorRunsUptoSaid : Prop := actorRunsUptoRow.holds Tryz.pinned (OpenSpec.upto actorRunsSpec)

/-- 'treadwheellaw.ActorDoes', WHERE WHAT IT READS IS OF BULK AT MOST 1048576: true; the input reads as it did. -/
def actorDoesUptoRow : OpenClaim := { program := "ytmgbhhabdapniaagreatdoor", sum := "0a095454adedd1049b58956d5070c297560887b1d0667b406b49b159a860b18b", func := "treadwheel/treadwheellaw.ActorDoes", spec := "actorDoes", unfollowed := true, recurses := true, named := ["treadwheel/code.uses"], apart := false, laid := [("treadwheel/code.uses", laid_treadwheel_code_uses)], narrowed := true }
def ActorDoesUptoSaid : Prop := actorDoesUptoRow.holds Tryz.pinned (OpenSpec.upto actorDoesSpec)

/-- 'treadwheeltop.TopAlone', WHERE WHAT IT READS IS OF BULK AT MOST 1048576: true; the input reads as it did. -/
def topAloneUptoRow : OpenClaim := { program := "ytmgbhhabdapniaagreatdoor", sum := "0a095454adedd1049b58956d5070c297560887b1d0667b406b49b159a860b18b", func := "treadwheel/treadwheeltop.TopAlone", spec := "topAlone", unfollowed := true, recurses := true, named := ["treadwheel/code.uses"], apart := false, laid := [("treadwheel/code.uses", laid_treadwheel_code_uses)], narrowed := true }
def TopAloneUptoSaid : Prop := topAloneUptoRow.holds Tryz.pinned (OpenSpec.upto topAloneSpec)

/-- 'treadwheeltop.TopSteps', WHERE WHAT IT READS IS OF BULK AT MOST 1048576: true; the input reads as it did. -/
def topStepsUptoRow : OpenClaim := { program := "ytmgbhhabdapniaagreatdoor", sum := "0a095454adedd1049b58956d5070c297560887b1d0667b406b49b159a860b18b", func := "treadwheel/treadwheeltop.TopSteps", spec := "topSteps", unfollowed := true, recurses := true, named := ["treadwheel/code.uses"], apart := false, laid := [("treadwheel/code.uses", laid_treadwheel_code_uses)], narrowed := true }
def TopStepsUptoSaid : Prop := topStepsUptoRow.holds Tryz.pinned (OpenSpec.upto topStepsSpec)

/-- 'treadwheeltop.TopEnded', WHERE WHAT IT READS IS OF BULK AT MOST 1048576: true; the input reads as it did. -/
def topEndedUptoRow : OpenClaim := { program := "ytmgbhhabdapniaagreatdoor", sum := "0a095454adedd1049b58956d5070c297560887b1d0667b406b49b159a860b18b", func := "treadwheel/treadwheeltop.TopEnded", spec := "topEnded", unfollowed := true, recurses := true, named := ["treadwheel/code.uses"], apart := false, laid := [("treadwheel/code.uses", laid_treadwheel_code_uses)], narrowed := true }
def TopEndedUptoSaid : Prop := topEndedUptoRow.holds Tryz.pinned (OpenSpec.upto topEndedSpec)

/-- 'treadwheeltop.TopSwap', WHERE WHAT IT READS IS OF BULK AT MOST 1048576: true; the input reads as it did. -/
def topSwapUptoRow : OpenClaim := { program := "ytmgbhhabdapniaagreatdoor", sum := "0a095454adedd1049b58956d5070c297560887b1d0667b406b49b159a860b18b", func := "treadwheel/treadwheeltop.TopSwap", spec := "topSwap", unfollowed := true, recurses := true, named := ["treadwheel/code.uses"], apart := false, laid := [("treadwheel/code.uses", laid_treadwheel_code_uses)], narrowed := true }
def TopSwapUptoSaid : Prop := topSwapUptoRow.holds Tryz.pinned (OpenSpec.upto topSwapSpec)

/-- 'treadwheeltop.TopBytes', WHERE WHAT IT READS IS OF BULK AT MOST 1048576: true; the input reads as it did. -/
def topBytesUptoRow : OpenClaim := { program := "ytmgbhhabdapniaagreatdoor", sum := "0a095454adedd1049b58956d5070c297560887b1d0667b406b49b159a860b18b", func := "treadwheel/treadwheeltop.TopBytes", spec := "topBytes", unfollowed := true, recurses := true, named := ["treadwheel/code.uses"], apart := false, laid := [("treadwheel/code.uses", laid_treadwheel_code_uses)], narrowed := true }
def TopBytesUptoSaid : Prop := topBytesUptoRow.holds Tryz.pinned (OpenSpec.upto topBytesSpec)

end Rows
end Go.Proofs.YtmgbhhabdapniaaGreatDoor

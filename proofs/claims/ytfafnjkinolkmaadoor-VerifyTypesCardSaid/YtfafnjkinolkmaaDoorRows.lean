/-
  NARROWER THAN 'FOR EVERY INPUT', by the rows' own cells (each row's printed sentence says how): CodeChecks: laid · CodeEncodes: laid · CodeDecodes: laid · VerifyTypes: laid · ProgramsOnce: laid · VerifyChecks: laid · TypesKnown: laid · TypesFlow: laid · ActorChecks: laid · ActorNew: laid · ProgramsBack: laid · ProgramsBad: laid.
  DERIVED. THE GIVEN ROWS OF THIS SEAT. 12 by the template 'for every input the law returns true; each argument reads behind the call as it read before'; 0 by the template 'total and deterministic' (their statements: YtfafnjkinolkmaaDoorTotals.lean).
  GIVEN WITH THE SEED: the statements are not yours to turn. If you find one false, say at which input.
  Laid BY PROGRAM, IN A SANDBOX (cutbox-rows.mjs): the forced cells as the released guide's own fill.sh prints them over the translation 56735c2ed7108513… (all of the seat's roots in one cut). By AI agents, Wed Nov 11 2026. No macro, syntax, notation, axiom, sorry.
-/
import Derived.Test.YtfafnjkinolkmaaDoorChecked
import GoSem.Claim
import GoSem.ClaimJoined
import GoSem.ClaimMapViews
import Derived.JoinedTies
import Derived.KernelRfl
namespace Go.Proofs.YtfafnjkinolkmaaDoor
/- THE CELL 'sum', in the pinned program and in every row, IS THE sha256 OF THE DUMP (.gsa) THAT YtfafnjkinolkmaaDoorProg.lean LOADS. Nothing in Lean hashes anything: it is a label: what it is worth is what the hold of that sum in a sandbox is worth. -/
noncomputable def Tryd.pinned : Pinned := { name := "ytfafnjkinolkmaadoor", sum := "56735c2ed710851368195a845ac0d713822ab0a7505459e980154ab08d24ce75", checked := Tryd.checked }
namespace Rows
def none {H : Type} : Left H := { results := [], args := [] }

/- WHAT THE LISTED PACKAGE-LEVEL VARIABLES READ AS WHEN THE CALL BEGINS. Each datum BY PROGRAM (the guide's laid-datum.mjs) off the statement by which the dump's own 'gosem.cut.vars' lays the variable. In a bare row this is a premise. The card (YtfafnjkinolkmaaDoorCards.lean) ties it to the program's text. -/
def laid_treadwheel_code_uses {H : Type} : DataW H := .agg [.lit (.int .i64 0), .lit (.int .i64 5), .lit (.int .i64 3), .lit (.int .i64 3), .lit (.int .i64 3), .lit (.int .i64 5), .lit (.int .i64 4), .lit (.int .i64 5), .lit (.int .i64 7), .lit (.int .i64 7), .lit (.int .i64 7), .lit (.int .i64 7), .lit (.int .i64 3), .lit (.int .i64 3), .lit (.int .i64 3), .lit (.int .i64 1), .lit (.int .i64 1), .lit (.int .i64 7), .lit (.int .i64 1), .lit (.int .i64 0)]

/-- 'treadwheellaw.CodeChecks': WHATEVER THE INPUT: true; the input reads as it did. -/
def codeChecksSpec : ChangeSpec := { name := "codeChecks", fn := fun _ => fun
  | [d] => { results := [.lit (.bool true)], args := [d] }
  | _ => none }
def codeChecksRow : OpenClaim := { program := "ytfafnjkinolkmaadoor", sum := "56735c2ed710851368195a845ac0d713822ab0a7505459e980154ab08d24ce75", func := "treadwheel/treadwheellaw.CodeChecks", spec := "codeChecks", named := ["treadwheel/code.uses"], apart := false, laid := [("treadwheel/code.uses", laid_treadwheel_code_uses)] }
def CodeChecksSaid : Prop := codeChecksRow.holds Tryd.pinned (OpenSpec.ofChange codeChecksSpec)

/-- ITS FALSE NEIGHBOUR: 'it returns false'. Refute it at one input. -/
def codeChecksWrong : ChangeSpec := { name := "codeChecks", fn := fun _ => fun
  | [d] => { results := [.lit (.bool false)], args := [d] }
  | _ => none }
def CodeChecksWrongFalsely : Prop := codeChecksRow.holds Tryd.pinned (OpenSpec.ofChange codeChecksWrong)

/-- 'treadwheellaw.CodeEncodes': WHATEVER THE INPUT: true; the input reads as it did. -/
def codeEncodesSpec : ChangeSpec := { name := "codeEncodes", fn := fun _ => fun
  | [d] => { results := [.lit (.bool true)], args := [d] }
  | _ => none }
def codeEncodesRow : OpenClaim := { program := "ytfafnjkinolkmaadoor", sum := "56735c2ed710851368195a845ac0d713822ab0a7505459e980154ab08d24ce75", func := "treadwheel/treadwheellaw.CodeEncodes", spec := "codeEncodes", recurses := true, named := ["treadwheel/code.uses"], apart := false, laid := [("treadwheel/code.uses", laid_treadwheel_code_uses)] }
def CodeEncodesSaid : Prop := codeEncodesRow.holds Tryd.pinned (OpenSpec.ofChange codeEncodesSpec)

/-- ITS FALSE NEIGHBOUR: 'it returns false'. Refute it at one input. -/
def codeEncodesWrong : ChangeSpec := { name := "codeEncodes", fn := fun _ => fun
  | [d] => { results := [.lit (.bool false)], args := [d] }
  | _ => none }
def CodeEncodesWrongFalsely : Prop := codeEncodesRow.holds Tryd.pinned (OpenSpec.ofChange codeEncodesWrong)

/-- 'treadwheellaw.CodeDecodes': WHATEVER THE INPUT: true; the input reads as it did. -/
def codeDecodesSpec : ChangeSpec := { name := "codeDecodes", fn := fun _ => fun
  | [d] => { results := [.lit (.bool true)], args := [d] }
  | _ => none }
def codeDecodesRow : OpenClaim := { program := "ytfafnjkinolkmaadoor", sum := "56735c2ed710851368195a845ac0d713822ab0a7505459e980154ab08d24ce75", func := "treadwheel/treadwheellaw.CodeDecodes", spec := "codeDecodes", named := ["treadwheel/code.uses"], apart := false, laid := [("treadwheel/code.uses", laid_treadwheel_code_uses)] }
def CodeDecodesSaid : Prop := codeDecodesRow.holds Tryd.pinned (OpenSpec.ofChange codeDecodesSpec)

/-- ITS FALSE NEIGHBOUR: 'it returns false'. Refute it at one input. -/
def codeDecodesWrong : ChangeSpec := { name := "codeDecodes", fn := fun _ => fun
  | [d] => { results := [.lit (.bool false)], args := [d] }
  | _ => none }
def CodeDecodesWrongFalsely : Prop := codeDecodesRow.holds Tryd.pinned (OpenSpec.ofChange codeDecodesWrong)

/-- 'treadwheellaw.VerifyTypes': WHATEVER THE INPUT: true; the input reads as it did. -/
def verifyTypesSpec : ChangeSpec := { name := "verifyTypes", fn := fun _ => fun
  | [d1, d2] => { results := [.lit (.bool true)], args := [d1, d2] }
  | _ => none }
def verifyTypesRow : OpenClaim := { program := "ytfafnjkinolkmaadoor", sum := "56735c2ed710851368195a845ac0d713822ab0a7505459e980154ab08d24ce75", func := "treadwheel/treadwheellaw.VerifyTypes", spec := "verifyTypes", named := ["treadwheel/code.uses"], apart := false, laid := [("treadwheel/code.uses", laid_treadwheel_code_uses)] }
def VerifyTypesSaid : Prop := verifyTypesRow.holds Tryd.pinned (OpenSpec.ofChange verifyTypesSpec)

/-- ITS FALSE NEIGHBOUR: 'it returns false'. Refute it at one input. -/
def verifyTypesWrong : ChangeSpec := { name := "verifyTypes", fn := fun _ => fun
  | [d1, d2] => { results := [.lit (.bool false)], args := [d1, d2] }
  | _ => none }
def VerifyTypesWrongFalsely : Prop := verifyTypesRow.holds Tryd.pinned (OpenSpec.ofChange verifyTypesWrong)

/-- 'treadwheelkeep.ProgramsOnce': WHATEVER THE INPUT: true; the input reads as it did. -/
def programsOnceSpec : ChangeSpec := { name := "programsOnce", fn := fun _ => fun
  | [d] => { results := [.lit (.bool true)], args := [d] }
  | _ => none }
def programsOnceRow : OpenClaim := { program := "ytfafnjkinolkmaadoor", sum := "56735c2ed710851368195a845ac0d713822ab0a7505459e980154ab08d24ce75", func := "treadwheel/treadwheelkeep.ProgramsOnce", spec := "programsOnce", named := ["treadwheel/code.uses"], apart := false, laid := [("treadwheel/code.uses", laid_treadwheel_code_uses)] }
def ProgramsOnceSaid : Prop := programsOnceRow.holds Tryd.pinned (OpenSpec.ofChange programsOnceSpec)

/-- ITS FALSE NEIGHBOUR: 'it returns false'. Refute it at one input. -/
def programsOnceWrong : ChangeSpec := { name := "programsOnce", fn := fun _ => fun
  | [d] => { results := [.lit (.bool false)], args := [d] }
  | _ => none }
def ProgramsOnceWrongFalsely : Prop := programsOnceRow.holds Tryd.pinned (OpenSpec.ofChange programsOnceWrong)

/-- 'treadwheellaw.VerifyChecks': WHATEVER THE INPUT: true; the input reads as it did. -/
def verifyChecksSpec : ChangeSpec := { name := "verifyChecks", fn := fun _ => fun
  | [d] => { results := [.lit (.bool true)], args := [d] }
  | _ => none }
def verifyChecksRow : OpenClaim := { program := "ytfafnjkinolkmaadoor", sum := "56735c2ed710851368195a845ac0d713822ab0a7505459e980154ab08d24ce75", func := "treadwheel/treadwheellaw.VerifyChecks", spec := "verifyChecks", named := ["treadwheel/code.uses"], apart := false, laid := [("treadwheel/code.uses", laid_treadwheel_code_uses)] }
def VerifyChecksSaid : Prop := verifyChecksRow.holds Tryd.pinned (OpenSpec.ofChange verifyChecksSpec)

/-- ITS FALSE NEIGHBOUR: 'it returns false'. Refute it at one input. -/
def verifyChecksWrong : ChangeSpec := { name := "verifyChecks", fn := fun _ => fun
  | [d] => { results := [.lit (.bool false)], args := [d] }
  | _ => none }
def VerifyChecksWrongFalsely : Prop := verifyChecksRow.holds Tryd.pinned (OpenSpec.ofChange verifyChecksWrong)

/-- 'treadwheelkeep.TypesKnown': WHATEVER THE INPUT: true; the input reads as it did. -/
def typesKnownSpec : ChangeSpec := { name := "typesKnown", fn := fun _ => fun
  | [d] => { results := [.lit (.bool true)], args := [d] }
  | _ => none }
def typesKnownRow : OpenClaim := { program := "ytfafnjkinolkmaadoor", sum := "56735c2ed710851368195a845ac0d713822ab0a7505459e980154ab08d24ce75", func := "treadwheel/treadwheelkeep.TypesKnown", spec := "typesKnown", named := ["treadwheel/code.uses"], apart := false, laid := [("treadwheel/code.uses", laid_treadwheel_code_uses)] }
def TypesKnownSaid : Prop := typesKnownRow.holds Tryd.pinned (OpenSpec.ofChange typesKnownSpec)

/-- ITS FALSE NEIGHBOUR: 'it returns false'. Refute it at one input. -/
def typesKnownWrong : ChangeSpec := { name := "typesKnown", fn := fun _ => fun
  | [d] => { results := [.lit (.bool false)], args := [d] }
  | _ => none }
def TypesKnownWrongFalsely : Prop := typesKnownRow.holds Tryd.pinned (OpenSpec.ofChange typesKnownWrong)

/-- 'treadwheelkeep.TypesFlow': WHATEVER THE INPUT: true; the input reads as it did. -/
def typesFlowSpec : ChangeSpec := { name := "typesFlow", fn := fun _ => fun
  | [d] => { results := [.lit (.bool true)], args := [d] }
  | _ => none }
def typesFlowRow : OpenClaim := { program := "ytfafnjkinolkmaadoor", sum := "56735c2ed710851368195a845ac0d713822ab0a7505459e980154ab08d24ce75", func := "treadwheel/treadwheelkeep.TypesFlow", spec := "typesFlow", named := ["treadwheel/code.uses"], apart := false, laid := [("treadwheel/code.uses", laid_treadwheel_code_uses)] }
def TypesFlowSaid : Prop := typesFlowRow.holds Tryd.pinned (OpenSpec.ofChange typesFlowSpec)

/-- ITS FALSE NEIGHBOUR: 'it returns false'. Refute it at one input. -/
def typesFlowWrong : ChangeSpec := { name := "typesFlow", fn := fun _ => fun
  | [d] => { results := [.lit (.bool false)], args := [d] }
  | _ => none }
def TypesFlowWrongFalsely : Prop := typesFlowRow.holds Tryd.pinned (OpenSpec.ofChange typesFlowWrong)

/-- 'treadwheellaw.ActorChecks': WHATEVER THE INPUT: true; the input reads as it did. -/
def actorChecksSpec : ChangeSpec := { name := "actorChecks", fn := fun _ => fun
  | [d1, d2] => { results := [.lit (.bool true)], args := [d1, d2] }
  | _ => none }
def actorChecksRow : OpenClaim := { program := "ytfafnjkinolkmaadoor", sum := "56735c2ed710851368195a845ac0d713822ab0a7505459e980154ab08d24ce75", func := "treadwheel/treadwheellaw.ActorChecks", spec := "actorChecks", unfollowed := true, recurses := true, named := ["treadwheel/code.uses"], apart := false, laid := [("treadwheel/code.uses", laid_treadwheel_code_uses)] }
def ActorChecksSaid : Prop := actorChecksRow.holds Tryd.pinned (OpenSpec.ofChange actorChecksSpec)

/-- ITS FALSE NEIGHBOUR: 'it returns false'. Refute it at one input. -/
def actorChecksWrong : ChangeSpec := { name := "actorChecks", fn := fun _ => fun
  | [d1, d2] => { results := [.lit (.bool false)], args := [d1, d2] }
  | _ => none }
def ActorChecksWrongFalsely : Prop := actorChecksRow.holds Tryd.pinned (OpenSpec.ofChange actorChecksWrong)

/-- 'treadwheellaw.ActorNew': WHATEVER THE INPUT: true; the input reads as it did. -/
def actorNewSpec : ChangeSpec := { name := "actorNew", fn := fun _ => fun
  | [d1, d2] => { results := [.lit (.bool true)], args := [d1, d2] }
  | _ => none }
def actorNewRow : OpenClaim := { program := "ytfafnjkinolkmaadoor", sum := "56735c2ed710851368195a845ac0d713822ab0a7505459e980154ab08d24ce75", func := "treadwheel/treadwheellaw.ActorNew", spec := "actorNew", unfollowed := true, recurses := true, named := ["treadwheel/code.uses"], apart := false, laid := [("treadwheel/code.uses", laid_treadwheel_code_uses)] }
def ActorNewSaid : Prop := actorNewRow.holds Tryd.pinned (OpenSpec.ofChange actorNewSpec)

/-- ITS FALSE NEIGHBOUR: 'it returns false'. Refute it at one input. -/
def actorNewWrong : ChangeSpec := { name := "actorNew", fn := fun _ => fun
  | [d1, d2] => { results := [.lit (.bool false)], args := [d1, d2] }
  | _ => none }
def ActorNewWrongFalsely : Prop := actorNewRow.holds Tryd.pinned (OpenSpec.ofChange actorNewWrong)

/-- 'treadwheelkeep.ProgramsBack': WHATEVER THE INPUT: true; the input reads as it did. -/
def programsBackSpec : ChangeSpec := { name := "programsBack", fn := fun _ => fun
  | [d1, d2] => { results := [.lit (.bool true)], args := [d1, d2] }
  | _ => none }
def programsBackRow : OpenClaim := { program := "ytfafnjkinolkmaadoor", sum := "56735c2ed710851368195a845ac0d713822ab0a7505459e980154ab08d24ce75", func := "treadwheel/treadwheelkeep.ProgramsBack", spec := "programsBack", unfollowed := true, recurses := true, named := ["treadwheel/code.uses"], apart := false, laid := [("treadwheel/code.uses", laid_treadwheel_code_uses)] }
def ProgramsBackSaid : Prop := programsBackRow.holds Tryd.pinned (OpenSpec.ofChange programsBackSpec)

/-- ITS FALSE NEIGHBOUR: 'it returns false'. Refute it at one input. -/
def programsBackWrong : ChangeSpec := { name := "programsBack", fn := fun _ => fun
  | [d1, d2] => { results := [.lit (.bool false)], args := [d1, d2] }
  | _ => none }
def ProgramsBackWrongFalsely : Prop := programsBackRow.holds Tryd.pinned (OpenSpec.ofChange programsBackWrong)

/-- 'treadwheelkeep.ProgramsBad': WHATEVER THE INPUT: true; the input reads as it did. -/
def programsBadSpec : ChangeSpec := { name := "programsBad", fn := fun _ => fun
  | [d1, d2] => { results := [.lit (.bool true)], args := [d1, d2] }
  | _ => none }
def programsBadRow : OpenClaim := { program := "ytfafnjkinolkmaadoor", sum := "56735c2ed710851368195a845ac0d713822ab0a7505459e980154ab08d24ce75", func := "treadwheel/treadwheelkeep.ProgramsBad", spec := "programsBad", unfollowed := true, recurses := true, named := ["treadwheel/code.uses"], apart := false, laid := [("treadwheel/code.uses", laid_treadwheel_code_uses)] }
def ProgramsBadSaid : Prop := programsBadRow.holds Tryd.pinned (OpenSpec.ofChange programsBadSpec)

/-- ITS FALSE NEIGHBOUR: 'it returns false'. Refute it at one input. -/
def programsBadWrong : ChangeSpec := { name := "programsBad", fn := fun _ => fun
  | [d1, d2] => { results := [.lit (.bool false)], args := [d1, d2] }
  | _ => none }
def ProgramsBadWrongFalsely : Prop := programsBadRow.holds Tryd.pinned (OpenSpec.ofChange programsBadWrong)

/- THE SECOND FORM. 'bulk': how many values and letters a reading holds, each counted each time it is reached (what is shared counts as often as it is met; a slice's spare places count too). A statement '..UptoSaid' is the law's where the arguments, and the package variables that the reading takes, are together of bulk at most 1048576: NARROWER than '..Said'. Prove '..Said' where nothing that the law and all that it calls make is longer than what came in: it says more and counts as full. Else prove '..UptoSaid'. A law counts once. -/
mutual
def uptoBulk {H : Type} : DataW H → Nat
  | .lit (.string bytes) => bytes.length + 1
  | .lit _ => 1
  | .nil => 1
  | .ptr d => uptoBulk d + 1
  | .slice elems spare => uptoBulkAll elems + uptoBulkAll spare + 1
  | .agg parts => uptoBulkAll parts + 1
  | .iface _ d => uptoBulk d + 1
  | .map entries => uptoBulkEntries entries + 1
  | .held _ => 1
def uptoBulkAll {H : Type} : List (DataW H) → Nat
  | [] => 0
  | d :: r => uptoBulk d + uptoBulkAll r
def uptoBulkEntries {H : Type} : List (Lit × DataW H) → Nat
  | [] => 0
  | x :: r => uptoBulkEntry x + uptoBulkEntries r
def uptoBulkEntry {H : Type} : Lit × DataW H → Nat
  | (.string bytes, d) => bytes.length + uptoBulk d + 1
  | (_, d) => uptoBulk d + 1
 end
def uptoSmall : (H : Type) → List (DataW H) → Bool := fun _ ds => decide (uptoBulkAll ds ≤ 1048576)
def OpenSpec.upto (s : _root_.Go.ChangeSpec) : _root_.Go.OpenSpec := { _root_.Go.OpenSpec.ofChange s with cond := some uptoSmall }

/-- 'treadwheellaw.CodeChecks', WHERE WHAT IT READS IS OF BULK AT MOST 1048576: true; the input reads as it did. -/
def codeChecksUptoRow : OpenClaim := { program := "ytfafnjkinolkmaadoor", sum := "56735c2ed710851368195a845ac0d713822ab0a7505459e980154ab08d24ce75", func := "treadwheel/treadwheellaw.CodeChecks", spec := "codeChecks", named := ["treadwheel/code.uses"], apart := false, laid := [("treadwheel/code.uses", laid_treadwheel_code_uses)], narrowed := true }
def CodeChecksUptoSaid : Prop := codeChecksUptoRow.holds Tryd.pinned (OpenSpec.upto codeChecksSpec)

/-- 'treadwheellaw.CodeEncodes', WHERE WHAT IT READS IS OF BULK AT MOST 1048576: true; the input reads as it did. -/
def codeEncodesUptoRow : OpenClaim := { program := "ytfafnjkinolkmaadoor", sum := "56735c2ed710851368195a845ac0d713822ab0a7505459e980154ab08d24ce75", func := "treadwheel/treadwheellaw.CodeEncodes", spec := "codeEncodes", recurses := true, named := ["treadwheel/code.uses"], apart := false, laid := [("treadwheel/code.uses", laid_treadwheel_code_uses)], narrowed := true }
def CodeEncodesUptoSaid : Prop := codeEncodesUptoRow.holds Tryd.pinned (OpenSpec.upto codeEncodesSpec)

/-- 'treadwheellaw.CodeDecodes', WHERE WHAT IT READS IS OF BULK AT MOST 1048576: true; the input reads as it did. -/
def codeDecodesUptoRow : OpenClaim := { program := "ytfafnjkinolkmaadoor", sum := "56735c2ed710851368195a845ac0d713822ab0a7505459e980154ab08d24ce75", func := "treadwheel/treadwheellaw.CodeDecodes", spec := "codeDecodes", named := ["treadwheel/code.uses"], apart := false, laid := [("treadwheel/code.uses", laid_treadwheel_code_uses)], narrowed := true }
def CodeDecodesUptoSaid : Prop := codeDecodesUptoRow.holds Tryd.pinned (OpenSpec.upto codeDecodesSpec)

/-- 'treadwheellaw.VerifyTypes', WHERE WHAT IT READS IS OF BULK AT MOST 1048576: true; the input reads as it did. -/
def verifyTypesUptoRow : OpenClaim := { program := "ytfafnjkinolkmaadoor", sum := "56735c2ed710851368195a845ac0d713822ab0a7505459e980154ab08d24ce75", func := "treadwheel/treadwheellaw.VerifyTypes", spec := "verifyTypes", named := ["treadwheel/code.uses"], apart := false, laid := [("treadwheel/code.uses", laid_treadwheel_code_uses)], narrowed := true }
def VerifyTypesUptoSaid : Prop := verifyTypesUptoRow.holds Tryd.pinned (OpenSpec.upto verifyTypesSpec)

/-- 'treadwheelkeep.ProgramsOnce', WHERE WHAT IT READS IS OF BULK AT MOST 1048576: true; the input reads as it did. -/
def programsOnceUptoRow : OpenClaim := { program := "ytfafnjkinolkmaadoor", sum := "56735c2ed710851368195a845ac0d713822ab0a7505459e980154ab08d24ce75", func := "treadwheel/treadwheelkeep.ProgramsOnce", spec := "programsOnce", named := ["treadwheel/code.uses"], apart := false, laid := [("treadwheel/code.uses", laid_treadwheel_code_uses)], narrowed := true }
def ProgramsOnceUptoSaid : Prop := programsOnceUptoRow.holds Tryd.pinned (OpenSpec.upto programsOnceSpec)

/-- 'treadwheellaw.VerifyChecks', WHERE WHAT IT READS IS OF BULK AT MOST 1048576: true; the input reads as it did. -/
def verifyChecksUptoRow : OpenClaim := { program := "ytfafnjkinolkmaadoor", sum := "56735c2ed710851368195a845ac0d713822ab0a7505459e980154ab08d24ce75", func := "treadwheel/treadwheellaw.VerifyChecks", spec := "verifyChecks", named := ["treadwheel/code.uses"], apart := false, laid := [("treadwheel/code.uses", laid_treadwheel_code_uses)], narrowed := true }
def VerifyChecksUptoSaid : Prop := verifyChecksUptoRow.holds Tryd.pinned (OpenSpec.upto verifyChecksSpec)

/-- 'treadwheelkeep.TypesKnown', WHERE WHAT IT READS IS OF BULK AT MOST 1048576: true; the input reads as it did. -/
def typesKnownUptoRow : OpenClaim := { program := "ytfafnjkinolkmaadoor", sum := "56735c2ed710851368195a845ac0d713822ab0a7505459e980154ab08d24ce75", func := "treadwheel/treadwheelkeep.TypesKnown", spec := "typesKnown", named := ["treadwheel/code.uses"], apart := false, laid := [("treadwheel/code.uses", laid_treadwheel_code_uses)], narrowed := true }
def TypesKnownUptoSaid : Prop := typesKnownUptoRow.holds Tryd.pinned (OpenSpec.upto typesKnownSpec)

/-- 'treadwheelkeep.TypesFlow', WHERE WHAT IT READS IS OF BULK AT MOST 1048576: true; the input reads as it did. -/
def typesFlowUptoRow : OpenClaim := { program := "ytfafnjkinolkmaadoor", sum := "56735c2ed710851368195a845ac0d713822ab0a7505459e980154ab08d24ce75", func := "treadwheel/treadwheelkeep.TypesFlow", spec := "typesFlow", named := ["treadwheel/code.uses"], apart := false, laid := [("treadwheel/code.uses", laid_treadwheel_code_uses)], narrowed := true }
def TypesFlowUptoSaid : Prop := typesFlowUptoRow.holds Tryd.pinned (OpenSpec.upto typesFlowSpec)

/-- 'treadwheellaw.ActorChecks', WHERE WHAT IT READS IS OF BULK AT MOST 1048576: true; the input reads as it did. -/
def actorChecksUptoRow : OpenClaim := { program := "ytfafnjkinolkmaadoor", sum := "56735c2ed710851368195a845ac0d713822ab0a7505459e980154ab08d24ce75", func := "treadwheel/treadwheellaw.ActorChecks", spec := "actorChecks", unfollowed := true, recurses := true, named := ["treadwheel/code.uses"], apart := false, laid := [("treadwheel/code.uses", laid_treadwheel_code_uses)], narrowed := true }
def ActorChecksUptoSaid : Prop := actorChecksUptoRow.holds Tryd.pinned (OpenSpec.upto actorChecksSpec)

/-- 'treadwheellaw.ActorNew', WHERE WHAT IT READS IS OF BULK AT MOST 1048576: true; the input reads as it did. -/
def actorNewUptoRow : OpenClaim := { program := "ytfafnjkinolkmaadoor", sum := "56735c2ed710851368195a845ac0d713822ab0a7505459e980154ab08d24ce75", func := "treadwheel/treadwheellaw.ActorNew", spec := "actorNew", unfollowed := true, recurses := true, named := ["treadwheel/code.uses"], apart := false, laid := [("treadwheel/code.uses", laid_treadwheel_code_uses)], narrowed := true }
def ActorNewUptoSaid : Prop := actorNewUptoRow.holds Tryd.pinned (OpenSpec.upto actorNewSpec)

/-- 'treadwheelkeep.ProgramsBack', WHERE WHAT IT READS IS OF BULK AT MOST 1048576: true; the input reads as it did. -/
def programsBackUptoRow : OpenClaim := { program := "ytfafnjkinolkmaadoor", sum := "56735c2ed710851368195a845ac0d713822ab0a7505459e980154ab08d24ce75", func := "treadwheel/treadwheelkeep.ProgramsBack", spec := "programsBack", unfollowed := true, recurses := true, named := ["treadwheel/code.uses"], apart := false, laid := [("treadwheel/code.uses", laid_treadwheel_code_uses)], narrowed := true }
def ProgramsBackUptoSaid : Prop := programsBackUptoRow.holds Tryd.pinned (OpenSpec.upto programsBackSpec)

/-- 'treadwheelkeep.ProgramsBad', WHERE WHAT IT READS IS OF BULK AT MOST 1048576: true; the input reads as it did. -/
def programsBadUptoRow : OpenClaim := { program := "ytfafnjkinolkmaadoor", sum := "56735c2ed710851368195a845ac0d713822ab0a7505459e980154ab08d24ce75", func := "treadwheel/treadwheelkeep.ProgramsBad", spec := "programsBad", unfollowed := true, recurses := true, named := ["treadwheel/code.uses"], apart := false, laid := [("treadwheel/code.uses", laid_treadwheel_code_uses)], narrowed := true }
def ProgramsBadUptoSaid : Prop := programsBadUptoRow.holds Tryd.pinned (OpenSpec.upto programsBadSpec)

end Rows
end Go.Proofs.YtfafnjkinolkmaaDoor

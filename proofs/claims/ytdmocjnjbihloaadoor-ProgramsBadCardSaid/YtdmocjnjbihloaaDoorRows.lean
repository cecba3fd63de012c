/-
  NARROWER THAN 'FOR EVERY INPUT', by the rows' own cells (each row's printed sentence says how): TopUnique: laid · TopClear: laid · ProgramsBad: laid · ParentsTold: laid · EchoTells: laid · BoxesFull: laid · WorldsGood: laid · TopTwice: laid · TopSound: laid.
  DERIVED. THE GIVEN ROWS OF THIS SEAT. 9 by the template 'for every input the law returns true; each argument reads behind the call as it read before'; 0 by the template 'total and deterministic' (their statements: YtdmocjnjbihloaaDoorTotals.lean).
  GIVEN WITH THE SEED: the statements are not yours to turn. If you find one false, say at which input.
  Laid BY PROGRAM, IN A SANDBOX (cutbox-rows.mjs): the forced cells as the released guide's own fill.sh prints them over the translation c6021fd1400fb221… (all of the seat's roots in one cut). By AI agents, Wed Nov 11 2026. No macro, syntax, notation, axiom, sorry.
-/
import Derived.Test.YtdmocjnjbihloaaDoorChecked
import GoSem.Claim
import GoSem.ClaimJoined
import GoSem.ClaimMapViews
import Derived.JoinedTies
import Derived.KernelRfl
namespace Go.Proofs.YtdmocjnjbihloaaDoor
/- THE CELL 'sum', in the pinned program and in every row, IS THE sha256 OF THE DUMP (.gsa) THAT YtdmocjnjbihloaaDoorProg.lean LOADS. Nothing in Lean hashes anything: it is a label: what it is worth is what the hold of that sum in a sandbox is worth. -/
noncomputable def Tryd.pinned : Pinned := { name := "ytdmocjnjbihloaadoor", sum := "c6021fd1400fb2210a5702368639f5411578c97c1bd3be00fb900f5cc7bab994", checked := Tryd.checked }
namespace Rows
def none {H : Type} : Left H := { results := [], args := [] }

/- WHAT THE LISTED PACKAGE-LEVEL VARIABLES READ AS WHEN THE CALL BEGINS. Each datum BY PROGRAM (the guide's laid-datum.mjs) off the statement by which the dump's own 'gosem.cut.vars' lays the variable. In a bare row this is a premise. The card (YtdmocjnjbihloaaDoorCards.lean) ties it to the program's text. -/
def laid_treadwheel_code_uses {H : Type} : DataW H := .agg [.lit (.int .i64 0), .lit (.int .i64 5), .lit (.int .i64 3), .lit (.int .i64 3), .lit (.int .i64 3), .lit (.int .i64 5), .lit (.int .i64 4), .lit (.int .i64 5), .lit (.int .i64 7), .lit (.int .i64 7), .lit (.int .i64 7), .lit (.int .i64 7), .lit (.int .i64 3), .lit (.int .i64 3), .lit (.int .i64 3), .lit (.int .i64 1), .lit (.int .i64 1), .lit (.int .i64 7), .lit (.int .i64 1), .lit (.int .i64 0)]

/-- 'treadwheeltop.TopUnique': WHATEVER THE INPUT: true; the input reads as it did. -/
def topUniqueSpec : ChangeSpec := { name := "topUnique", fn := fun _ => fun
  | [d1, d2, d3] => { results := [.lit (.bool true)], args := [d1, d2, d3] }
  | _ => none }
def topUniqueRow : OpenClaim := { program := "ytdmocjnjbihloaadoor", sum := "c6021fd1400fb2210a5702368639f5411578c97c1bd3be00fb900f5cc7bab994", func := "treadwheel/treadwheeltop.TopUnique", spec := "topUnique", unfollowed := true, recurses := true, named := ["treadwheel/code.uses"], apart := false, laid := [("treadwheel/code.uses", laid_treadwheel_code_uses)] }
def TopUniqueSaid : Prop := topUniqueRow.holds Tryd.pinned (OpenSpec.ofChange topUniqueSpec)

/-- ITS FALSE NEIGHBOUR: 'it returns false'. Refute it at one input. -/
def topUniqueWrong : ChangeSpec := { name := "topUnique", fn := fun _ => fun
  | [d1, d2, d3] => { results := [.lit (.bool false)], args := [d1, d2, d3] }
  | _ => none }
def TopUniqueWrongFalsely : Prop := topUniqueRow.holds Tryd.pinned (OpenSpec.ofChange topUniqueWrong)

/-- 'treadwheeltop.TopClear': WHATEVER THE INPUT: true; the input reads as it did. -/
def topClearSpec : ChangeSpec := { name := "topClear", fn := fun _ => fun
  | [d1, d2, d3, d4] => { results := [.lit (.bool true)], args := [d1, d2, d3, d4] }
  | _ => none }
def topClearRow : OpenClaim := { program := "ytdmocjnjbihloaadoor", sum := "c6021fd1400fb2210a5702368639f5411578c97c1bd3be00fb900f5cc7bab994", func := "treadwheel/treadwheeltop.TopClear", spec := "topClear", unfollowed := true, recurses := true, named := ["treadwheel/code.uses"], apart := false, laid := [("treadwheel/code.uses", laid_treadwheel_code_uses)] }
def TopClearSaid : Prop := topClearRow.holds Tryd.pinned (OpenSpec.ofChange topClearSpec)

/-- ITS FALSE NEIGHBOUR: 'it returns false'. Refute it at one input. -/
def topClearWrong : ChangeSpec := { name := "topClear", fn := fun _ => fun
  | [d1, d2, d3, d4] => { results := [.lit (.bool false)], args := [d1, d2, d3, d4] }
  | _ => none }
def TopClearWrongFalsely : Prop := topClearRow.holds Tryd.pinned (OpenSpec.ofChange topClearWrong)

/-- 'treadwheelkeep.ProgramsBad': WHATEVER THE INPUT: true; the input reads as it did. -/
def programsBadSpec : ChangeSpec := { name := "programsBad", fn := fun _ => fun
  | [d1, d2] => { results := [.lit (.bool true)], args := [d1, d2] }
  | _ => none }
def programsBadRow : OpenClaim := { program := "ytdmocjnjbihloaadoor", sum := "c6021fd1400fb2210a5702368639f5411578c97c1bd3be00fb900f5cc7bab994", func := "treadwheel/treadwheelkeep.ProgramsBad", spec := "programsBad", unfollowed := true, recurses := true, named := ["treadwheel/code.uses"], apart := false, laid := [("treadwheel/code.uses", laid_treadwheel_code_uses)] }
def ProgramsBadSaid : Prop := programsBadRow.holds Tryd.pinned (OpenSpec.ofChange programsBadSpec)

/-- ITS FALSE NEIGHBOUR: 'it returns false'. Refute it at one input. -/
def programsBadWrong : ChangeSpec := { name := "programsBad", fn := fun _ => fun
  | [d1, d2] => { results := [.lit (.bool false)], args := [d1, d2] }
  | _ => none }
def ProgramsBadWrongFalsely : Prop := programsBadRow.holds Tryd.pinned (OpenSpec.ofChange programsBadWrong)

/-- 'treadwheelkeep.ParentsTold': WHATEVER THE INPUT: true; the input reads as it did. -/
def parentsToldSpec : ChangeSpec := { name := "parentsTold", fn := fun _ => fun
  | [d] => { results := [.lit (.bool true)], args := [d] }
  | _ => none }
def parentsToldRow : OpenClaim := { program := "ytdmocjnjbihloaadoor", sum := "c6021fd1400fb2210a5702368639f5411578c97c1bd3be00fb900f5cc7bab994", func := "treadwheel/treadwheelkeep.ParentsTold", spec := "parentsTold", unfollowed := true, recurses := true, named := ["treadwheel/code.uses"], apart := false, laid := [("treadwheel/code.uses", laid_treadwheel_code_uses)] }
def ParentsToldSaid : Prop := parentsToldRow.holds Tryd.pinned (OpenSpec.ofChange parentsToldSpec)

/-- ITS FALSE NEIGHBOUR: 'it returns false'. Refute it at one input. -/
def parentsToldWrong : ChangeSpec := { name := "parentsTold", fn := fun _ => fun
  | [d] => { results := [.lit (.bool false)], args := [d] }
  | _ => none }
def ParentsToldWrongFalsely : Prop := parentsToldRow.holds Tryd.pinned (OpenSpec.ofChange parentsToldWrong)

/-- 'treadwheelkeep.EchoTells': WHATEVER THE INPUT: true; the input reads as it did. -/
def echoTellsSpec : ChangeSpec := { name := "echoTells", fn := fun _ => fun
  | [d] => { results := [.lit (.bool true)], args := [d] }
  | _ => none }
def echoTellsRow : OpenClaim := { program := "ytdmocjnjbihloaadoor", sum := "c6021fd1400fb2210a5702368639f5411578c97c1bd3be00fb900f5cc7bab994", func := "treadwheel/treadwheelkeep.EchoTells", spec := "echoTells", unfollowed := true, recurses := true, named := ["treadwheel/code.uses"], apart := false, laid := [("treadwheel/code.uses", laid_treadwheel_code_uses)] }
def EchoTellsSaid : Prop := echoTellsRow.holds Tryd.pinned (OpenSpec.ofChange echoTellsSpec)

/-- ITS FALSE NEIGHBOUR: 'it returns false'. Refute it at one input. -/
def echoTellsWrong : ChangeSpec := { name := "echoTells", fn := fun _ => fun
  | [d] => { results := [.lit (.bool false)], args := [d] }
  | _ => none }
def EchoTellsWrongFalsely : Prop := echoTellsRow.holds Tryd.pinned (OpenSpec.ofChange echoTellsWrong)

/-- 'treadwheelkeep.BoxesFull': WHATEVER THE INPUT: true; the input reads as it did. -/
def boxesFullSpec : ChangeSpec := { name := "boxesFull", fn := fun _ => fun
  | [d] => { results := [.lit (.bool true)], args := [d] }
  | _ => none }
def boxesFullRow : OpenClaim := { program := "ytdmocjnjbihloaadoor", sum := "c6021fd1400fb2210a5702368639f5411578c97c1bd3be00fb900f5cc7bab994", func := "treadwheel/treadwheelkeep.BoxesFull", spec := "boxesFull", unfollowed := true, recurses := true, named := ["treadwheel/code.uses"], apart := false, laid := [("treadwheel/code.uses", laid_treadwheel_code_uses)] }
def BoxesFullSaid : Prop := boxesFullRow.holds Tryd.pinned (OpenSpec.ofChange boxesFullSpec)

/-- ITS FALSE NEIGHBOUR: 'it returns false'. Refute it at one input. -/
def boxesFullWrong : ChangeSpec := { name := "boxesFull", fn := fun _ => fun
  | [d] => { results := [.lit (.bool false)], args := [d] }
  | _ => none }
def BoxesFullWrongFalsely : Prop := boxesFullRow.holds Tryd.pinned (OpenSpec.ofChange boxesFullWrong)

/-- 'treadwheelkeep.WorldsGood': WHATEVER THE INPUT: true; the input reads as it did. -/
def worldsGoodSpec : ChangeSpec := { name := "worldsGood", fn := fun _ => fun
  | [d1, d2, d3] => { results := [.lit (.bool true)], args := [d1, d2, d3] }
  | _ => none }
def worldsGoodRow : OpenClaim := { program := "ytdmocjnjbihloaadoor", sum := "c6021fd1400fb2210a5702368639f5411578c97c1bd3be00fb900f5cc7bab994", func := "treadwheel/treadwheelkeep.WorldsGood", spec := "worldsGood", unfollowed := true, recurses := true, named := ["treadwheel/code.uses"], apart := false, laid := [("treadwheel/code.uses", laid_treadwheel_code_uses)] }
def WorldsGoodSaid : Prop := worldsGoodRow.holds Tryd.pinned (OpenSpec.ofChange worldsGoodSpec)

/-- ITS FALSE NEIGHBOUR: 'it returns false'. Refute it at one input. -/
def worldsGoodWrong : ChangeSpec := { name := "worldsGood", fn := fun _ => fun
  | [d1, d2, d3] => { results := [.lit (.bool false)], args := [d1, d2, d3] }
  | _ => none }
def WorldsGoodWrongFalsely : Prop := worldsGoodRow.holds Tryd.pinned (OpenSpec.ofChange worldsGoodWrong)

/-- 'treadwheeltop.TopTwice': WHATEVER THE INPUT: true; the input reads as it did. -/
def topTwiceSpec : ChangeSpec := { name := "topTwice", fn := fun _ => fun
  | [d1, d2, d3, d4] => { results := [.lit (.bool true)], args := [d1, d2, d3, d4] }
  | _ => none }
def topTwiceRow : OpenClaim := { program := "ytdmocjnjbihloaadoor", sum := "c6021fd1400fb2210a5702368639f5411578c97c1bd3be00fb900f5cc7bab994", func := "treadwheel/treadwheeltop.TopTwice", spec := "topTwice", unfollowed := true, recurses := true, named := ["treadwheel/code.uses"], apart := false, laid := [("treadwheel/code.uses", laid_treadwheel_code_uses)] }
def TopTwiceSaid : Prop := topTwiceRow.holds Tryd.pinned (OpenSpec.ofChange topTwiceSpec)

/-- ITS FALSE NEIGHBOUR: 'it returns false'. Refute it at one input. -/
def topTwiceWrong : ChangeSpec := { name := "topTwice", fn := fun _ => fun
  | [d1, d2, d3, d4] => { results := [.lit (.bool false)], args := [d1, d2, d3, d4] }
  | _ => none }
def TopTwiceWrongFalsely : Prop := topTwiceRow.holds Tryd.pinned (OpenSpec.ofChange topTwiceWrong)

/-- 'treadwheeltop.TopSound': WHATEVER THE INPUT: true; the input reads as it did. -/
def topSoundSpec : ChangeSpec := { name := "topSound", fn := fun _ => fun
  | [d1, d2, d3] => { results := [.lit (.bool true)], args := [d1, d2, d3] }
  | _ => none }
def topSoundRow : OpenClaim := { program := "ytdmocjnjbihloaadoor", sum := "c6021fd1400fb2210a5702368639f5411578c97c1bd3be00fb900f5cc7bab994", func := "treadwheel/treadwheeltop.TopSound", spec := "topSound", unfollowed := true, recurses := true, named := ["treadwheel/code.uses"], apart := false, laid := [("treadwheel/code.uses", laid_treadwheel_code_uses)] }
def TopSoundSaid : Prop := topSoundRow.holds Tryd.pinned (OpenSpec.ofChange topSoundSpec)

/-- ITS FALSE NEIGHBOUR: 'it returns false'. Refute it at one input. -/
def topSoundWrong : ChangeSpec := { name := "topSound", fn := fun _ => fun
  | [d1, d2, d3] => { results := [.lit (.bool false)], args := [d1, d2, d3] }
  | _ => none }
def TopSoundWrongFalsely : Prop := topSoundRow.holds Tryd.pinned (OpenSpec.ofChange topSoundWrong)

/- THE SECOND FORM. 'bulk': how many values and letters a reading holds, each counted each time it is reached (what is shared counts as often as it is met; a slice's spare places count too). A statement '..UptoSaid' is the law's where the arguments, and the package variables that the reading takes, are together of bulk at most 1048576: NARROWER than '..Said'. Prove '..Said' where nothing that the law and all that it calls make is longer than what came in: it says more and counts as full. Else prove '..UptoSaid'. A law counts once. -/
mutual
def uptoBulk {H : Type} : DataW H → Nat
  | .lit (.string bytes) => bytes.length + 1
  | .lit _ => 1
  | .nil => 1
  | .ptr d => uptoBulk d + 1
  | .slice elems spare => uptoBulkAll elems + uptoBulkAll spare + 1
  | .agg parts => uptoBulkAll parts + 1
  | .iface _ d => uptoBulk d + 1
  | .map entries => uptoBulkEntries entries + 1
  | .held _ => 1
def uptoBulkAll {H : Type} : List (DataW H) → Nat
  | [] => 0
  | d :: r => uptoBulk d + uptoBulkAll r
def uptoBulkEntries {H : Type} : List (Lit × DataW H) → Nat
  | [] => 0
  | x :: r => uptoBulkEntry x + uptoBulkEntries r
def uptoBulkEntry {H : Type} : Lit × DataW H → Nat
  | (.string bytes, d) => bytes.length + uptoBulk d + 1
  | (_, d) => uptoBulk d + 1
 end
def uptoSmall : (H : Type) → List (DataW H) → Bool := fun _ ds => decide (uptoBulkAll ds ≤ 1048576)
def OpenSpec.upto (s : _root_.Go.ChangeSpec) : _root_.Go.OpenSpec := { _root_.Go.OpenSpec.ofChange s with cond := some uptoSmall }

/-- 'treadwheeltop.TopUnique', WHERE WHAT IT READS IS OF BULK AT MOST 1048576: true; the input reads as it did. -/
def topUniqueUptoRow : OpenClaim := { program := "ytdmocjnjbihloaadoor", sum := "c6021fd1400fb2210a5702368639f5411578c97c1bd3be00fb900f5cc7bab994", func := "treadwheel/treadwheeltop.TopUnique", spec := "topUnique", unfollowed := true, recurses := true, named := ["treadwheel/code.uses"], apart := false, laid := [("treadwheel/code.uses", laid_treadwheel_code_uses)], narrowed := true }
def TopUniqueUptoSaid : Prop := topUniqueUptoRow.holds Tryd.pinned (OpenSpec.upto topUniqueSpec)

/-- 'treadwheeltop.TopClear', WHERE WHAT IT READS IS OF BULK AT MOST 1048576: true; the input reads as it did. -/
def topClearUptoRow : OpenClaim := { program := "ytdmocjnjbihloaadoor", sum := "c6021fd1400fb2210a5702368639f5411578c97c1bd3be00fb900f5cc7bab994", func := "treadwheel/treadwheeltop.TopClear", spec := "topClear", unfollowed := true, recurses := true, named := ["treadwheel/code.uses"], apart := false, laid := [("treadwheel/code.uses", laid_treadwheel_code_uses)], narrowed := true }
def TopClearUptoSaid : Prop := topClearUptoRow.holds Tryd.pinned (OpenSpec.upto topClearSpec)

/-- 'treadwheelkeep.ProgramsBad', WHERE WHAT IT READS IS OF BULK AT MOST 1048576: true; the input reads as it did. -/
def programsBadUptoRow : OpenClaim := { program := "ytdmocjnjbihloaadoor", sum := "c6021fd1400fb2210a5702368639f5411578c97c1bd3be00fb900f5cc7bab994", func := "treadwheel/treadwheelkeep.ProgramsBad", spec := "programsBad", unfollowed := true, recurses := true, named := ["treadwheel/code.uses"], apart := false, laid := [("treadwheel/code.uses", laid_treadwheel_code_uses)], narrowed := true }
def ProgramsBadUptoSaid : Prop := programsBadUptoRow.holds Tryd.pinned (OpenSpec.upto programsBadSpec)

/-- 'treadwheelkeep.ParentsTold', WHERE WHAT IT READS IS OF BULK AT MOST 1048576: true; the input reads as it did. -/
def parentsToldUptoRow : OpenClaim := { program := "ytdmocjnjbihloaadoor", sum := "c6021fd1400fb2210a5702368639f5411578c97c1bd3be00fb900f5cc7bab994", func := "treadwheel/treadwheelkeep.ParentsTold", spec := "parentsTold", unfollowed := true, recurses := true, named := ["treadwheel/code.uses"], apart := false, laid := [("treadwheel/code.uses", laid_treadwheel_code_uses)], narrowed := true }
def ParentsToldUptoSaid : Prop := parentsToldUptoRow.holds Tryd.pinned (OpenSpec.upto parentsToldSpec)

/-- 'treadwheelkeep.EchoTells', WHERE WHAT IT READS IS OF BULK AT MOST 1048576: true; the input reads as it did. -/
def echoTellsUptoRow : OpenClaim := { program := "ytdmocjnjbihloaadoor", sum := "c6021fd1400fb2210a5702368639f5411578c97c1bd3be00fb900f5cc7bab994", func := "treadwheel/treadwheelkeep.EchoTells", spec := "echoTells", unfollowed := true, recurses := true, named := ["treadwheel/code.uses"], apart := false, laid := [("treadwheel/code.uses", laid_treadwheel_code_uses)], narrowed := true }
def EchoTellsUptoSaid : Prop := echoTellsUptoRow.holds Tryd.pinned (OpenSpec.upto echoTellsSpec)

/-- 'treadwheelkeep.BoxesFull', WHERE WHAT IT READS IS OF BULK AT MOST 1048576: true; the input reads as it did. -/
def boxesFullUptoRow : OpenClaim := { program := "ytdmocjnjbihloaadoor", sum := "c6021fd1400fb2210a5702368639f5411578c97c1bd3be00fb900f5cc7bab994", func := "treadwheel/treadwheelkeep.BoxesFull", spec := "boxesFull", unfollowed := true, recurses := true, named := ["treadwheel/code.uses"], apart := false, laid := [("treadwheel/code.uses", laid_treadwheel_code_uses)], narrowed := true }
def BoxesFullUptoSaid : Prop := boxesFullUptoRow.holds Tryd.pinned (OpenSpec.upto boxesFullSpec)

/-- 'treadwheelkeep.WorldsGood', WHERE WHAT IT READS IS OF BULK AT MOST 1048576: true; the input reads as it did. -/
def worldsGoodUptoRow : OpenClaim := { program := "ytdmocjnjbihloaadoor", sum := "c6021fd1400fb2210a5702368639f5411578c97c1bd3be00fb900f5cc7bab994", func := "treadwheel/treadwheelkeep.WorldsGood", spec := "worldsGood", unfollowed := true, recurses := true, named := ["treadwheel/code.uses"], apart := false, laid := [("treadwheel/code.uses", laid_treadwheel_code_uses)], narrowed := true }
def WorldsGoodUptoSaid : Prop := worldsGoodUptoRow.holds Tryd.pinned (OpenSpec.upto worldsGoodSpec)

/-- 'treadwheeltop.TopTwice', WHERE WHAT IT READS IS OF BULK AT MOST 1048576: true; the input reads as it did. -/
def topTwiceUptoRow : OpenClaim := { program := "ytdmocjnjbihloaadoor", sum := "c6021fd1400fb2210a5702368639f5411578c97c1bd3be00fb900f5cc7bab994", func := "treadwheel/treadwheeltop.TopTwice", spec := "topTwice", unfollowed := true, recurses := true, named := ["treadwheel/code.uses"], apart := false, laid := [("treadwheel/code.uses", laid_treadwheel_code_uses)], narrowed := true }
def TopTwiceUptoSaid : Prop := topTwiceUptoRow.holds Tryd.pinned (OpenSpec.upto topTwiceSpec)

/-- 'treadwheeltop.TopSound', WHERE WHAT IT READS IS OF BULK AT MOST 1048576: true; the input reads as it did. -/
def topSoundUptoRow : OpenClaim := { program := "ytdmocjnjbihloaadoor", sum := "c6021fd1400fb2210a5702368639f5411578c97c1bd3be00fb900f5cc7bab994", func := "treadwheel/treadwheeltop.TopSound", spec := "topSound", unfollowed := true, recurses := true, named := ["treadwheel/code.uses"], apart := false, laid := [("treadwheel/code.uses", laid_treadwheel_code_uses)], narrowed := true }
def TopSoundUptoSaid : Prop := topSoundUptoRow.holds Tryd.pinned (OpenSpec.upto topSoundSpec)

end Rows
end Go.Proofs.YtdmocjnjbihloaaDoor

/-
  No cell of these rows narrows 'for every input' (looked for: loops, veiled, ifaces, maps, wideKeys, modest, calm, conditions, laid).
  DERIVED. THE GIVEN ROWS OF THIS SEAT. 12 by the template 'for every input the law returns true; each argument reads behind the call as it read before'; 0 by the template 'total and deterministic' (their statements: YtedimclljhgomaaTotals.lean).
  GIVEN WITH THE SEED: the statements are not yours to turn. If you find one false, say at which input.
  Laid BY PROGRAM, IN A SANDBOX (cutbox-rows.mjs): the forced cells as the released guide's own fill.sh prints them over the translation 7a6c96f42bac6033… (all of the seat's roots in one cut). By AI agents, Wed Nov 11 2026. No macro, syntax, notation, axiom, sorry.
-/
import Derived.Test.YtedimclljhgomaaChecked
import GoSem.Claim
import GoSem.ClaimJoined
import GoSem.ClaimMapViews
import Derived.JoinedTies
import Derived.KernelRfl
namespace Go.Proofs.Ytedimclljhgomaa
/- THE CELL 'sum', in the pinned program and in every row, IS THE sha256 OF THE DUMP (.gsa) THAT YtedimclljhgomaaProg.lean LOADS. Nothing in Lean hashes anything: it is a label: what it is worth is what the hold of that sum in a sandbox is worth. -/
noncomputable def Try.pinned : Pinned := { name := "ytedimclljhgomaa", sum := "7a6c96f42bac6033cc2bb033677caba6b2032d5425d49ac624861cb72c021f49", checked := Try.checked }
namespace Rows
def none {H : Type} : Left H := { results := [], args := [] }

/-- 'treadwheellaw.Names': WHATEVER THE INPUT: true; the input reads as it did. -/
def namesSpec : ChangeSpec := { name := "names", fn := fun _ => fun
  | [] => { results := [.lit (.bool true)], args := [] }
  | _ => none }
def namesRow : OpenClaim := { program := "ytedimclljhgomaa", sum := "7a6c96f42bac6033cc2bb033677caba6b2032d5425d49ac624861cb72c021f49", func := "treadwheel/treadwheellaw.Names", spec := "names", apart := false }
def NamesSaid : Prop := namesRow.holds Try.pinned (OpenSpec.ofChange namesSpec)

/-- ITS FALSE NEIGHBOUR: 'it returns false'. Refute it at one input. -/
def namesWrong : ChangeSpec := { name := "names", fn := fun _ => fun
  | [] => { results := [.lit (.bool false)], args := [] }
  | _ => none }
def NamesWrongFalsely : Prop := namesRow.holds Try.pinned (OpenSpec.ofChange namesWrong)

/-- 'treadwheellaw.ActorCopies': WHATEVER THE INPUT: true; the input reads as it did. -/
def actorCopiesSpec : ChangeSpec := { name := "actorCopies", fn := fun _ => fun
  | [d] => { results := [.lit (.bool true)], args := [d] }
  | _ => none }
def actorCopiesRow : OpenClaim := { program := "ytedimclljhgomaa", sum := "7a6c96f42bac6033cc2bb033677caba6b2032d5425d49ac624861cb72c021f49", func := "treadwheel/treadwheellaw.ActorCopies", spec := "actorCopies", apart := false }
def ActorCopiesSaid : Prop := actorCopiesRow.holds Try.pinned (OpenSpec.ofChange actorCopiesSpec)

/-- ITS FALSE NEIGHBOUR: 'it returns false'. Refute it at one input. -/
def actorCopiesWrong : ChangeSpec := { name := "actorCopies", fn := fun _ => fun
  | [d] => { results := [.lit (.bool false)], args := [d] }
  | _ => none }
def ActorCopiesWrongFalsely : Prop := actorCopiesRow.holds Try.pinned (OpenSpec.ofChange actorCopiesWrong)

/-- 'treadwheellaw.HeapReaches': WHATEVER THE INPUT: true; the input reads as it did. -/
def heapReachesSpec : ChangeSpec := { name := "heapReaches", fn := fun _ => fun
  | [d1, d2] => { results := [.lit (.bool true)], args := [d1, d2] }
  | _ => none }
def heapReachesRow : OpenClaim := { program := "ytedimclljhgomaa", sum := "7a6c96f42bac6033cc2bb033677caba6b2032d5425d49ac624861cb72c021f49", func := "treadwheel/treadwheellaw.HeapReaches", spec := "heapReaches", unfollowed := true, recurses := true, apart := false }
def HeapReachesSaid : Prop := heapReachesRow.holds Try.pinned (OpenSpec.ofChange heapReachesSpec)

/-- ITS FALSE NEIGHBOUR: 'it returns false'. Refute it at one input. -/
def heapReachesWrong : ChangeSpec := { name := "heapReaches", fn := fun _ => fun
  | [d1, d2] => { results := [.lit (.bool false)], args := [d1, d2] }
  | _ => none }
def HeapReachesWrongFalsely : Prop := heapReachesRow.holds Try.pinned (OpenSpec.ofChange heapReachesWrong)

/-- 'treadwheellaw.HeapAllocs': WHATEVER THE INPUT: true; the input reads as it did. -/
def heapAllocsSpec : ChangeSpec := { name := "heapAllocs", fn := fun _ => fun
  | [d1, d2] => { results := [.lit (.bool true)], args := [d1, d2] }
  | _ => none }
def heapAllocsRow : OpenClaim := { program := "ytedimclljhgomaa", sum := "7a6c96f42bac6033cc2bb033677caba6b2032d5425d49ac624861cb72c021f49", func := "treadwheel/treadwheellaw.HeapAllocs", spec := "heapAllocs", unfollowed := true, recurses := true, apart := false }
def HeapAllocsSaid : Prop := heapAllocsRow.holds Try.pinned (OpenSpec.ofChange heapAllocsSpec)

/-- ITS FALSE NEIGHBOUR: 'it returns false'. Refute it at one input. -/
def heapAllocsWrong : ChangeSpec := { name := "heapAllocs", fn := fun _ => fun
  | [d1, d2] => { results := [.lit (.bool false)], args := [d1, d2] }
  | _ => none }
def HeapAllocsWrongFalsely : Prop := heapAllocsRow.holds Try.pinned (OpenSpec.ofChange heapAllocsWrong)

/-- 'treadwheellaw.HeapSets': WHATEVER THE INPUT: true; the input reads as it did. -/
def heapSetsSpec : ChangeSpec := { name := "heapSets", fn := fun _ => fun
  | [d1, d2, d3, d4] => { results := [.lit (.bool true)], args := [d1, d2, d3, d4] }
  | _ => none }
def heapSetsRow : OpenClaim := { program := "ytedimclljhgomaa", sum := "7a6c96f42bac6033cc2bb033677caba6b2032d5425d49ac624861cb72c021f49", func := "treadwheel/treadwheellaw.HeapSets", spec := "heapSets", unfollowed := true, recurses := true, apart := false }
def HeapSetsSaid : Prop := heapSetsRow.holds Try.pinned (OpenSpec.ofChange heapSetsSpec)

/-- ITS FALSE NEIGHBOUR: 'it returns false'. Refute it at one input. -/
def heapSetsWrong : ChangeSpec := { name := "heapSets", fn := fun _ => fun
  | [d1, d2, d3, d4] => { results := [.lit (.bool false)], args := [d1, d2, d3, d4] }
  | _ => none }
def HeapSetsWrongFalsely : Prop := heapSetsRow.holds Try.pinned (OpenSpec.ofChange heapSetsWrong)

/-- 'treadwheelkeep.HeapGood': WHATEVER THE INPUT: true; the input reads as it did. -/
def heapGoodSpec : ChangeSpec := { name := "heapGood", fn := fun _ => fun
  | [d1, d2] => { results := [.lit (.bool true)], args := [d1, d2] }
  | _ => none }
def heapGoodRow : OpenClaim := { program := "ytedimclljhgomaa", sum := "7a6c96f42bac6033cc2bb033677caba6b2032d5425d49ac624861cb72c021f49", func := "treadwheel/treadwheelkeep.HeapGood", spec := "heapGood", unfollowed := true, recurses := true, apart := false }
def HeapGoodSaid : Prop := heapGoodRow.holds Try.pinned (OpenSpec.ofChange heapGoodSpec)

/-- ITS FALSE NEIGHBOUR: 'it returns false'. Refute it at one input. -/
def heapGoodWrong : ChangeSpec := { name := "heapGood", fn := fun _ => fun
  | [d1, d2] => { results := [.lit (.bool false)], args := [d1, d2] }
  | _ => none }
def HeapGoodWrongFalsely : Prop := heapGoodRow.holds Try.pinned (OpenSpec.ofChange heapGoodWrong)

/-- 'treadwheelkeep.SetGets': WHATEVER THE INPUT: true; the input reads as it did. -/
def setGetsSpec : ChangeSpec := { name := "setGets", fn := fun _ => fun
  | [d1, d2, d3, d4, d5, d6] => { results := [.lit (.bool true)], args := [d1, d2, d3, d4, d5, d6] }
  | _ => none }
def setGetsRow : OpenClaim := { program := "ytedimclljhgomaa", sum := "7a6c96f42bac6033cc2bb033677caba6b2032d5425d49ac624861cb72c021f49", func := "treadwheel/treadwheelkeep.SetGets", spec := "setGets", unfollowed := true, recurses := true, apart := false }
def SetGetsSaid : Prop := setGetsRow.holds Try.pinned (OpenSpec.ofChange setGetsSpec)

/-- ITS FALSE NEIGHBOUR: 'it returns false'. Refute it at one input. -/
def setGetsWrong : ChangeSpec := { name := "setGets", fn := fun _ => fun
  | [d1, d2, d3, d4, d5, d6] => { results := [.lit (.bool false)], args := [d1, d2, d3, d4, d5, d6] }
  | _ => none }
def SetGetsWrongFalsely : Prop := setGetsRow.holds Try.pinned (OpenSpec.ofChange setGetsWrong)

/-- 'treadwheellaw.HeapTransfers': WHATEVER THE INPUT: true; the input reads as it did. -/
def heapTransfersSpec : ChangeSpec := { name := "heapTransfers", fn := fun _ => fun
  | [d1, d2, d3, d4] => { results := [.lit (.bool true)], args := [d1, d2, d3, d4] }
  | _ => none }
def heapTransfersRow : OpenClaim := { program := "ytedimclljhgomaa", sum := "7a6c96f42bac6033cc2bb033677caba6b2032d5425d49ac624861cb72c021f49", func := "treadwheel/treadwheellaw.HeapTransfers", spec := "heapTransfers", unfollowed := true, recurses := true, apart := false }
def HeapTransfersSaid : Prop := heapTransfersRow.holds Try.pinned (OpenSpec.ofChange heapTransfersSpec)

/-- ITS FALSE NEIGHBOUR: 'it returns false'. Refute it at one input. -/
def heapTransfersWrong : ChangeSpec := { name := "heapTransfers", fn := fun _ => fun
  | [d1, d2, d3, d4] => { results := [.lit (.bool false)], args := [d1, d2, d3, d4] }
  | _ => none }
def HeapTransfersWrongFalsely : Prop := heapTransfersRow.holds Try.pinned (OpenSpec.ofChange heapTransfersWrong)

/-- 'treadwheelkeep.ReachesOnce': WHATEVER THE INPUT: true; the input reads as it did. -/
def reachesOnceSpec : ChangeSpec := { name := "reachesOnce", fn := fun _ => fun
  | [d1, d2, d3] => { results := [.lit (.bool true)], args := [d1, d2, d3] }
  | _ => none }
def reachesOnceRow : OpenClaim := { program := "ytedimclljhgomaa", sum := "7a6c96f42bac6033cc2bb033677caba6b2032d5425d49ac624861cb72c021f49", func := "treadwheel/treadwheelkeep.ReachesOnce", spec := "reachesOnce", unfollowed := true, recurses := true, apart := false }
def ReachesOnceSaid : Prop := reachesOnceRow.holds Try.pinned (OpenSpec.ofChange reachesOnceSpec)

/-- ITS FALSE NEIGHBOUR: 'it returns false'. Refute it at one input. -/
def reachesOnceWrong : ChangeSpec := { name := "reachesOnce", fn := fun _ => fun
  | [d1, d2, d3] => { results := [.lit (.bool false)], args := [d1, d2, d3] }
  | _ => none }
def ReachesOnceWrongFalsely : Prop := reachesOnceRow.holds Try.pinned (OpenSpec.ofChange reachesOnceWrong)

/-- 'treadwheelkeep.TransferSame': WHATEVER THE INPUT: true; the input reads as it did. -/
def transferSameSpec : ChangeSpec := { name := "transferSame", fn := fun _ => fun
  | [d1, d2, d3, d4] => { results := [.lit (.bool true)], args := [d1, d2, d3, d4] }
  | _ => none }
def transferSameRow : OpenClaim := { program := "ytedimclljhgomaa", sum := "7a6c96f42bac6033cc2bb033677caba6b2032d5425d49ac624861cb72c021f49", func := "treadwheel/treadwheelkeep.TransferSame", spec := "transferSame", unfollowed := true, recurses := true, apart := false }
def TransferSameSaid : Prop := transferSameRow.holds Try.pinned (OpenSpec.ofChange transferSameSpec)

/-- ITS FALSE NEIGHBOUR: 'it returns false'. Refute it at one input. -/
def transferSameWrong : ChangeSpec := { name := "transferSame", fn := fun _ => fun
  | [d1, d2, d3, d4] => { results := [.lit (.bool false)], args := [d1, d2, d3, d4] }
  | _ => none }
def TransferSameWrongFalsely : Prop := transferSameRow.holds Try.pinned (OpenSpec.ofChange transferSameWrong)

/-- 'treadwheellaw.HeapCollects': WHATEVER THE INPUT: true; the input reads as it did. -/
def heapCollectsSpec : ChangeSpec := { name := "heapCollects", fn := fun _ => fun
  | [d1, d2] => { results := [.lit (.bool true)], args := [d1, d2] }
  | _ => none }
def heapCollectsRow : OpenClaim := { program := "ytedimclljhgomaa", sum := "7a6c96f42bac6033cc2bb033677caba6b2032d5425d49ac624861cb72c021f49", func := "treadwheel/treadwheellaw.HeapCollects", spec := "heapCollects", unfollowed := true, recurses := true, apart := false }
def HeapCollectsSaid : Prop := heapCollectsRow.holds Try.pinned (OpenSpec.ofChange heapCollectsSpec)

/-- ITS FALSE NEIGHBOUR: 'it returns false'. Refute it at one input. -/
def heapCollectsWrong : ChangeSpec := { name := "heapCollects", fn := fun _ => fun
  | [d1, d2] => { results := [.lit (.bool false)], args := [d1, d2] }
  | _ => none }
def HeapCollectsWrongFalsely : Prop := heapCollectsRow.holds Try.pinned (OpenSpec.ofChange heapCollectsWrong)

/-- 'treadwheelkeep.CollectSame': WHATEVER THE INPUT: true; the input reads as it did. -/
def collectSameSpec : ChangeSpec := { name := "collectSame", fn := fun _ => fun
  | [d1, d2, d3] => { results := [.lit (.bool true)], args := [d1, d2, d3] }
  | _ => none }
def collectSameRow : OpenClaim := { program := "ytedimclljhgomaa", sum := "7a6c96f42bac6033cc2bb033677caba6b2032d5425d49ac624861cb72c021f49", func := "treadwheel/treadwheelkeep.CollectSame", spec := "collectSame", unfollowed := true, recurses := true, apart := false }
def CollectSameSaid : Prop := collectSameRow.holds Try.pinned (OpenSpec.ofChange collectSameSpec)

/-- ITS FALSE NEIGHBOUR: 'it returns false'. Refute it at one input. -/
def collectSameWrong : ChangeSpec := { name := "collectSame", fn := fun _ => fun
  | [d1, d2, d3] => { results := [.lit (.bool false)], args := [d1, d2, d3] }
  | _ => none }
def CollectSameWrongFalsely : Prop := collectSameRow.holds Try.pinned (OpenSpec.ofChange collectSameWrong)

/- THE SECOND FORM. 'bulk': how many values and letters a reading holds, each counted each time it is reached (what is shared counts as often as it is met; a slice's spare places count too). A statement '..UptoSaid' is the law's where the arguments, and the package variables that the reading takes, are together of bulk at most 1048576: NARROWER than '..Said'. Prove '..Said' where nothing that the law and all that it calls make is longer than what came in: it says more and counts as full. Else prove '..UptoSaid'. A law counts once. -/
mutual
def uptoBulk {H : Type} : DataW H → Nat
  | .lit (.string bytes) => bytes.length + 1
  | .lit _ => 1
  | .nil => 1
  | .ptr d => uptoBulk d + 1
  | .slice elems spare => uptoBulkAll elems + uptoBulkAll spare + 1
  | .agg parts => uptoBulkAll parts + 1
  | .iface _ d => uptoBulk d + 1
  | .map entries => uptoBulkEntries entries + 1
  | .held _ => 1
def uptoBulkAll {H : Type} : List (DataW H) → Nat
  | [] => 0
  | d :: r => uptoBulk d + uptoBulkAll r
def uptoBulkEntries {H : Type} : List (Lit × DataW H) → Nat
  | [] => 0
  | x :: r => uptoBulkEntry x + uptoBulkEntries r
def uptoBulkEntry {H : Type} : Lit × DataW H → Nat
  | (.string bytes, d) => bytes.length + uptoBulk d + 1
  | (_, d) => uptoBulk d + 1
 end
def uptoSmall : (H : Type) → List (DataW H) → Bool := fun _ ds => decide (uptoBulkAll ds ≤ 1048576)
def OpenSpec.upto (s : _root_.Go.ChangeSpec) : _root_.Go.OpenSpec := { _root_.Go.OpenSpec.ofChange s with cond := some uptoSmall }

/-- 'treadwheellaw.Names', WHERE WHAT IT READS IS OF BULK AT MOST 1048576: true; the input reads as it did. -/
def namesUptoRow : OpenClaim := { program := "ytedimclljhgomaa", sum := "7a6c96f42bac6033cc2bb033677caba6b2032d5425d49ac624861cb72c021f49", func := "treadwheel/treadwheellaw.Names", spec := "names", apart := false, narrowed := true }
def NamesUptoSaid : Prop := namesUptoRow.holds Try.pinned (OpenSpec.upto namesSpec)

/-- 'treadwheellaw.ActorCopies', WHERE WHAT IT READS IS OF BULK AT MOST 1048576: true; the input reads as it did. -/
def actorCopiesUptoRow : OpenClaim := { program := "ytedimclljhgomaa", sum := "7a6c96f42bac6033cc2bb033677caba6b2032d5425d49ac624861cb72c021f49", func := "treadwheel/treadwheellaw.ActorCopies", spec := "actorCopies", apart := false, narrowed := true }
def ActorCopiesUptoSaid : Prop := actorCopiesUptoRow.holds Try.pinned (OpenSpec.upto actorCopiesSpec)

/-- 'treadwheellaw.HeapReaches', WHERE WHAT IT READS IS OF BULK AT MOST 1048576: true; the input reads as it did. -/
def heapReachesUptoRow : OpenClaim := { program := "ytedimclljhgomaa", sum := "7a6c96f42bac6033cc2bb033677caba6b2032d5425d49ac624861cb72c021f49", func := "treadwheel/treadwheellaw.HeapReaches", spec := "heapReaches", unfollowed := true, recurses := true, apart := false, narrowed := true }
def HeapReachesUptoSaid : Prop := heapReachesUptoRow.holds Try.pinned (OpenSpec.upto heapReachesSpec)

/-- 'treadwheellaw.HeapAllocs', WHERE WHAT IT READS IS OF BULK AT MOST 1048576: true; the input reads as it did. -/
def heapAllocsUptoRow : OpenClaim := { program := "ytedimclljhgomaa", sum := "7a6c96f42bac6033cc2bb033677caba6b2032d5425d49ac624861cb72c021f49", func := "treadwheel/treadwheellaw.HeapAllocs", spec := "heapAllocs", unfollowed := true, recurses := true, apart := false, narrowed := true }
def HeapAllocsUptoSaid : Prop := heapAllocsUptoRow.holds Try.pinned (OpenSpec.upto heapAllocsSpec)

/-- 'treadwheellaw.HeapSets', WHERE WHAT IT READS IS OF BULK AT MOST 1048576: true; the input reads as it did. -/
def heapSetsUptoRow : OpenClaim := { program := "ytedimclljhgomaa", sum := "7a6c96f42bac6033cc2bb033677caba6b2032d5425d49ac624861cb72c021f49", func := "treadwheel/treadwheellaw.HeapSets", spec := "heapSets", unfollowed := true, recurses := true, apart := false, narrowed := true }
def HeapSetsUptoSaid : Prop := heapSetsUptoRow.holds Try.pinned (OpenSpec.upto heapSetsSpec)

/-- 'treadwheelkeep.HeapGood', WHERE WHAT IT READS IS OF BULK AT MOST 1048576: true; the input reads as it did. -/
def heapGoodUptoRow : OpenClaim := { program := "ytedimclljhgomaa", sum := "7a6c96f42bac6033cc2bb033677caba6b2032d5425d49ac624861cb72c021f49", func := "treadwheel/treadwheelkeep.HeapGood", spec := "heapGood", unfollowed := true, recurses := true, apart := false, narrowed := true }
def HeapGoodUptoSaid : Prop := heapGoodUptoRow.holds Try.pinned (OpenSpec.upto heapGoodSpec)

/-- 'treadwheelkeep.SetGets', WHERE WHAT IT READS IS OF BULK AT MOST 1048576: true; the input reads as it did. -/
def setGetsUptoRow : OpenClaim := { program := "ytedimclljhgomaa", sum := "7a6c96f42bac6033cc2bb033677caba6b2032d5425d49ac624861cb72c021f49", func := "treadwheel/treadwheelkeep.SetGets", spec := "setGets", unfollowed := true, recurses := true, apart := false, narrowed := true }
def SetGetsUptoSaid : Prop := setGetsUptoRow.holds Try.pinned (OpenSpec.upto setGetsSpec)

/-- 'treadwheellaw.HeapTransfers', WHERE WHAT IT READS IS OF BULK AT MOST 1048576: true; the input reads as it did. -/
def heapTransfersUptoRow : OpenClaim := { program := "ytedimclljhgomaa", sum := "7a6c96f42bac6033cc2bb033677caba6b2032d5425d49ac624861cb72c021f49", func := "treadwheel/treadwheellaw.HeapTransfers", spec := "heapTransfers", unfollowed := true, recurses := true, apart := false, narrowed := true }
def HeapTransfersUptoSaid : Prop := heapTransfersUptoRow.holds Try.pinned (OpenSpec.upto heapTransfersSpec)

/-- 'treadwheelkeep.ReachesOnce', WHERE WHAT IT READS IS OF BULK AT MOST 1048576: true; the input reads as it did. -/
def reachesOnceUptoRow : OpenClaim := { program := "ytedimclljhgomaa", sum := "7a6c96f42bac6033cc2bb033677caba6b2032d5425d49ac624861cb72c021f49", func := "treadwheel/treadwheelkeep.ReachesOnce", spec := "reachesOnce", unfollowed := true, recurses := true, apart := false, narrowed := true }
def ReachesOnceUptoSaid : Prop := reachesOnceUptoRow.holds Try.pinned (OpenSpec.upto reachesOnceSpec)

/-- 'treadwheelkeep.TransferSame', WHERE WHAT IT READS IS OF BULK AT MOST 1048576: true; the input reads as it did. -/
def transferSameUptoRow : OpenClaim := { program := "ytedimclljhgomaa", sum := "7a6c96f42bac6033cc2bb033677caba6b2032d5425d49ac624861cb72c021f49", func := "treadwheel/treadwheelkeep.TransferSame", spec := "transferSame", unfollowed := true, recurses := true, apart := false, narrowed := true }
def TransferSameUptoSaid : Prop := transferSameUptoRow.holds Try.pinned (OpenSpec.upto transferSameSpec)

/-- 'treadwheellaw.HeapCollects', WHERE WHAT IT READS IS OF BULK AT MOST 1048576: true; the input reads as it did. -/
def heapCollectsUptoRow : OpenClaim := { program := "ytedimclljhgomaa", sum := "7a6c96f42bac6033cc2bb033677caba6b2032d5425d49ac624861cb72c021f49", func := "treadwheel/treadwheellaw.HeapCollects", spec := "heapCollects", unfollowed := true, recurses := true, apart := false, narrowed := true }
def HeapCollectsUptoSaid : Prop := heapCollectsUptoRow.holds Try.pinned (OpenSpec.upto heapCollectsSpec)

/-- 'treadwheelkeep.CollectSame', WHERE WHAT IT READS IS OF BULK AT MOST 1048576: true; the input reads as it did. -/
def collectSameUptoRow : OpenClaim := { program := "ytedimclljhgomaa", sum := "7a6c96f42bac6033cc2bb033677caba6b2032d5425d49ac624861cb72c021f49", func := "treadwheel/treadwheelkeep.CollectSame", spec := "collectSame", unfollowed := true, recurses := true, apart := false, narrowed := true }
def CollectSameUptoSaid : Prop := collectSameUptoRow.holds Try.pinned (OpenSpec.upto collectSameSpec)

end Rows
end Go.Proofs.Ytedimclljhgomaa

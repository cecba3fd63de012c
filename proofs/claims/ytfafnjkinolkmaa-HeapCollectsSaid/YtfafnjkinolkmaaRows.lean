/-
  No cell of these rows narrows 'for every input' (looked for: loops, veiled, ifaces, maps, wideKeys, modest, calm, conditions, laid).
  DERIVED. THE GIVEN ROWS OF THIS SEAT. 7 by the template 'for every input the law returns true; each argument reads behind the call as it read before'; 0 by the template 'total and deterministic' (their statements: YtfafnjkinolkmaaTotals.lean).
  GIVEN WITH THE SEED: the statements are not yours to turn. If you find one false, say at which input.
  Laid BY PROGRAM, IN A SANDBOX (cutbox-rows.mjs): the forced cells as the released guide's own fill.sh prints them over the translation 23f7cde4c0640f1a… (all of the seat's roots in one cut). By AI agents, Wed Nov 11 2026. No macro, syntax, notation, axiom, sorry.
-/
import Derived.Test.YtfafnjkinolkmaaChecked
import GoSem.Claim
import GoSem.ClaimJoined
import GoSem.ClaimMapViews
import Derived.JoinedTies
import Derived.KernelRfl
namespace Go.Proofs.Ytfafnjkinolkmaa
/- THE CELL 'sum', in the pinned program and in every row, IS THE sha256 OF THE DUMP (.gsa) THAT YtfafnjkinolkmaaProg.lean LOADS. Nothing in Lean hashes anything: it is a label: what it is worth is what the hold of that sum in a sandbox is worth. -/
noncomputable def Try.pinned : Pinned := { name := "ytfafnjkinolkmaa", sum := "23f7cde4c0640f1afd95acb766dfac765c55284281bd4ef1eca82226b9a9584d", checked := Try.checked }
namespace Rows
def none {H : Type} : Left H := { results := [], args := [] }

/-- 'treadwheelkeep.HeapGood': WHATEVER THE INPUT: true; the input reads as it did. -/
def heapGoodSpec : ChangeSpec := { name := "heapGood", fn := fun _ => fun
  | [d1, d2] => { results := [.lit (.bool true)], args := [d1, d2] }
  | _ => none }
def heapGoodRow : OpenClaim := { program := "ytfafnjkinolkmaa", sum := "23f7cde4c0640f1afd95acb766dfac765c55284281bd4ef1eca82226b9a9584d", func := "treadwheel/treadwheelkeep.HeapGood", spec := "heapGood", unfollowed := true, recurses := true, apart := false }
def HeapGoodSaid : Prop := heapGoodRow.holds Try.pinned (OpenSpec.ofChange heapGoodSpec)

/-- ITS FALSE NEIGHBOUR: 'it returns false'. Refute it at one input. -/
def heapGoodWrong : ChangeSpec := { name := "heapGood", fn := fun _ => fun
  | [d1, d2] => { results := [.lit (.bool false)], args := [d1, d2] }
  | _ => none }
def HeapGoodWrongFalsely : Prop := heapGoodRow.holds Try.pinned (OpenSpec.ofChange heapGoodWrong)

/-- 'treadwheelkeep.SetGets': WHATEVER THE INPUT: true; the input reads as it did. -/
def setGetsSpec : ChangeSpec := { name := "setGets", fn := fun _ => fun
  | [d1, d2, d3, d4, d5, d6] => { results := [.lit (.bool true)], args := [d1, d2, d3, d4, d5, d6] }
  | _ => none }
def setGetsRow : OpenClaim := { program := "ytfafnjkinolkmaa", sum := "23f7cde4c0640f1afd95acb766dfac765c55284281bd4ef1eca82226b9a9584d", func := "treadwheel/treadwheelkeep.SetGets", spec := "setGets", unfollowed := true, recurses := true, apart := false }
def SetGetsSaid : Prop := setGetsRow.holds Try.pinned (OpenSpec.ofChange setGetsSpec)

/-- ITS FALSE NEIGHBOUR: 'it returns false'. Refute it at one input. -/
def setGetsWrong : ChangeSpec := { name := "setGets", fn := fun _ => fun
  | [d1, d2, d3, d4, d5, d6] => { results := [.lit (.bool false)], args := [d1, d2, d3, d4, d5, d6] }
  | _ => none }
def SetGetsWrongFalsely : Prop := setGetsRow.holds Try.pinned (OpenSpec.ofChange setGetsWrong)

/-- 'treadwheellaw.HeapTransfers': WHATEVER THE INPUT: true; the input reads as it did. -/
def heapTransfersSpec : ChangeSpec := { name := "heapTransfers", fn := fun _ => fun
  | [d1, d2, d3, d4] => { results := [.lit (.bool true)], args := [d1, d2, d3, d4] }
  | _ => none }
def heapTransfersRow : OpenClaim := { program := "ytfafnjkinolkmaa", sum := "23f7cde4c0640f1afd95acb766dfac765c55284281bd4ef1eca82226b9a9584d", func := "treadwheel/treadwheellaw.HeapTransfers", spec := "heapTransfers", unfollowed := true, recurses := true, apart := false }
def HeapTransfersSaid : Prop := heapTransfersRow.holds Try.pinned (OpenSpec.ofChange heapTransfersSpec)

/-- ITS FALSE NEIGHBOUR: 'it returns false'. Refute it at one input. -/
def heapTransfersWrong : ChangeSpec := { name := "heapTransfers", fn := fun _ => fun
  | [d1, d2, d3, d4] => { results := [.lit (.bool false)], args := [d1, d2, d3, d4] }
  | _ => none }
def HeapTransfersWrongFalsely : Prop := heapTransfersRow.holds Try.pinned (OpenSpec.ofChange heapTransfersWrong)

/-- 'treadwheelkeep.ReachesOnce': WHATEVER THE INPUT: true; the input reads as it did. -/
def reachesOnceSpec : ChangeSpec := { name := "reachesOnce", fn := fun _ => fun
  | [d1, d2, d3] => { results := [.lit (.bool true)], args := [d1, d2, d3] }
  | _ => none }
def reachesOnceRow : OpenClaim := { program := "ytfafnjkinolkmaa", sum := "23f7cde4c0640f1afd95acb766dfac765c55284281bd4ef1eca82226b9a9584d", func := "treadwheel/treadwheelkeep.ReachesOnce", spec := "reachesOnce", unfollowed := true, recurses := true, apart := false }
def ReachesOnceSaid : Prop := reachesOnceRow.holds Try.pinned (OpenSpec.ofChange reachesOnceSpec)

/-- ITS FALSE NEIGHBOUR: 'it returns false'. Refute it at one input. -/
def reachesOnceWrong : ChangeSpec := { name := "reachesOnce", fn := fun _ => fun
  | [d1, d2, d3] => { results := [.lit (.bool false)], args := [d1, d2, d3] }
  | _ => none }
def ReachesOnceWrongFalsely : Prop := reachesOnceRow.holds Try.pinned (OpenSpec.ofChange reachesOnceWrong)

/-- 'treadwheelkeep.TransferSame': WHATEVER THE INPUT: true; the input reads as it did. -/
def transferSameSpec : ChangeSpec := { name := "transferSame", fn := fun _ => fun
  | [d1, d2, d3, d4] => { results := [.lit (.bool true)], args := [d1, d2, d3, d4] }
  | _ => none }
def transferSameRow : OpenClaim := { program := "ytfafnjkinolkmaa", sum := "23f7cde4c0640f1afd95acb766dfac765c55284281bd4ef1eca82226b9a9584d", func := "treadwheel/treadwheelkeep.TransferSame", spec := "transferSame", unfollowed := true, recurses := true, apart := false }
def TransferSameSaid : Prop := transferSameRow.holds Try.pinned (OpenSpec.ofChange transferSameSpec)

/-- ITS FALSE NEIGHBOUR: 'it returns false'. Refute it at one input. -/
def transferSameWrong : ChangeSpec := { name := "transferSame", fn := fun _ => fun
  | [d1, d2, d3, d4] => { results := [.lit (.bool false)], args := [d1, d2, d3, d4] }
  | _ => none }
def TransferSameWrongFalsely : Prop := transferSameRow.holds Try.pinned (OpenSpec.ofChange transferSameWrong)

/-- 'treadwheellaw.HeapCollects': WHATEVER THE INPUT: true; the input reads as it did. -/
def heapCollectsSpec : ChangeSpec := { name := "heapCollects", fn := fun _ => fun
  | [d1, d2] => { results := [.lit (.bool true)], args := [d1, d2] }
  | _ => none }
def heapCollectsRow : OpenClaim := { program := "ytfafnjkinolkmaa", sum := "23f7cde4c0640f1afd95acb766dfac765c55284281bd4ef1eca82226b9a9584d", func := "treadwheel/treadwheellaw.HeapCollects", spec := "heapCollects", unfollowed := true, recurses := true, apart := false }
def HeapCollectsSaid : Prop := heapCollectsRow.holds Try.pinned (OpenSpec.ofChange heapCollectsSpec)

/-- ITS FALSE NEIGHBOUR: 'it returns false'. Refute it at one input. -/
def heapCollectsWrong : ChangeSpec := { name := "heapCollects", fn := fun _ => fun
  | [d1, d2] => { results := [.lit (.bool false)], args := [d1, d2] }
  | _ => none }
def HeapCollectsWrongFalsely : Prop := heapCollectsRow.holds Try.pinned (OpenSpec.ofChange heapCollectsWrong)

/-- 'treadwheelkeep.CollectSame': WHATEVER THE INPUT: true; the input reads as it did. -/
def collectSameSpec : ChangeSpec := { name := "collectSame", fn := fun _ => fun
  | [d1, d2, d3] => { results := [.lit (.bool true)], args := [d1, d2, d3] }
  | _ => none }
def collectSameRow : OpenClaim := { program := "ytfafnjkinolkmaa", sum := "23f7cde4c0640f1afd95acb766dfac765c55284281bd4ef1eca82226b9a9584d", func := "treadwheel/treadwheelkeep.CollectSame", spec := "collectSame", unfollowed := true, recurses := true, apart := false }
def CollectSameSaid : Prop := collectSameRow.holds Try.pinned (OpenSpec.ofChange collectSameSpec)

/-- ITS FALSE NEIGHBOUR: 'it returns false'. Refute it at one input. -/
def collectSameWrong : ChangeSpec := { name := "collectSame", fn := fun _ => fun
  | [d1, d2, d3] => { results := [.lit (.bool false)], args := [d1, d2, d3] }
  | _ => none }
def CollectSameWrongFalsely : Prop := collectSameRow.holds Try.pinned (OpenSpec.ofChange collectSameWrong)

/- THE SECOND FORM. 'bulk': how many values and letters a reading holds, each counted each time it is reached (what is shared counts as often as it is met; a slice's spare places count too). A statement '..UptoSaid' is the law's where the arguments, and the package variables that the reading takes, are together of bulk at most 1048576: NARROWER than '..Said'. Prove '..Said' where nothing that the law and all that it calls make is longer than what came in: it says more and counts as full. Else prove '..UptoSaid'. A law counts once. -/
mutual
def uptoBulk {H : Type} : DataW H → Nat
  | .lit (.string bytes) => bytes.length + 1
  | .lit _ => 1
  | .nil => 1
  | .ptr d => uptoBulk d + 1
  | .slice elems spare => uptoBulkAll elems + uptoBulkAll spare + 1
  | .agg parts => uptoBulkAll parts + 1
  | .iface _ d => uptoBulk d + 1
  | .map entries => uptoBulkEntries entries + 1
  | .held _ => 1
def uptoBulkAll {H : Type} : List (DataW H) → Nat
  | [] => 0
  | d :: r => uptoBulk d + uptoBulkAll r
def uptoBulkEntries {H : Type} : List (Lit × DataW H) → Nat
  | [] => 0
  | x :: r => uptoBulkEntry x + uptoBulkEntries r
def uptoBulkEntry {H : Type} : Lit × DataW H → Nat
  | (.string bytes, d) => bytes.length + uptoBulk d + 1
  | (_, d) => uptoBulk d + 1
 end
def uptoSmall : (H : Type) → List (DataW H) → Bool := fun _ ds => decide (uptoBulkAll ds ≤ 1048576)
def OpenSpec.upto (s : _root_.Go.ChangeSpec) : _root_.Go.OpenSpec := { _root_.Go.OpenSpec.ofChange s with cond := some uptoSmall }

/-- 'treadwheelkeep.HeapGood', WHERE WHAT IT READS IS OF BULK AT MOST 1048576: true; the input reads as it did. -/
def heapGoodUptoRow : OpenClaim := { program := "ytfafnjkinolkmaa", sum := "23f7cde4c0640f1afd95acb766dfac765c55284281bd4ef1eca82226b9a9584d", func := "treadwheel/treadwheelkeep.HeapGood", spec := "heapGood", unfollowed := true, recurses := true, apart := false, narrowed := true }
def HeapGoodUptoSaid : Prop := heapGoodUptoRow.holds Try.pinned (OpenSpec.upto heapGoodSpec)

/-- 'treadwheelkeep.SetGets', WHERE WHAT IT READS IS OF BULK AT MOST 1048576: true; the input reads as it did. -/
def setGetsUptoRow : OpenClaim := { program := "ytfafnjkinolkmaa", sum := "23f7cde4c0640f1afd95acb766dfac765c55284281bd4ef1eca82226b9a9584d", func := "treadwheel/treadwheelkeep.SetGets", spec := "setGets", unfollowed := true, recurses := true, apart := false, narrowed := true }
def SetGetsUptoSaid : Prop := setGetsUptoRow.holds Try.pinned (OpenSpec.upto setGetsSpec)

/-- 'treadwheellaw.HeapTransfers', WHERE WHAT IT READS IS OF BULK AT MOST 1048576: true; the input reads as it did. -/
def heapTransfersUptoRow : OpenClaim := { program := "ytfafnjkinolkmaa", sum := "23f7cde4c0640f1afd95acb766dfac765c55284281bd4ef1eca82226b9a9584d", func := "treadwheel/treadwheellaw.HeapTransfers", spec := "heapTransfers", unfollowed := true, recurses := true, apart := false, narrowed := true }
def HeapTransfersUptoSaid : Prop := heapTransfersUptoRow.holds Try.pinned (OpenSpec.upto heapTransfersSpec)

/-- 'treadwheelkeep.ReachesOnce', WHERE WHAT IT READS IS OF BULK AT MOST 1048576: true; the input reads as it did. -/
def reachesOnceUptoRow : OpenClaim := { program := "ytfafnjkinolkmaa", sum := "23f7cde4c0640f1afd95acb766dfac765c55284281bd4ef1eca82226b9a9584d", func := "treadwheel/treadwheelkeep.ReachesOnce", spec := "reachesOnce", unfollowed := true, recurses := true, apart := false, narrowed := true }
def ReachesOnceUptoSaid : Prop := reachesOnceUptoRow.holds Try.pinned (OpenSpec.upto reachesOnceSpec)

/-- 'treadwheelkeep.TransferSame', WHERE WHAT IT READS IS OF BULK AT MOST 1048576: true; the input reads as it did. -/
def transferSameUptoRow : OpenClaim := { program := "ytfafnjkinolkmaa", sum := "23f7cde4c0640f1afd95acb766dfac765c55284281bd4ef1eca82226b9a9584d", func := "treadwheel/treadwheelkeep.TransferSame", spec := "transferSame", unfollowed := true, recurses := true, apart := false, narrowed := true }
def TransferSameUptoSaid : Prop := transferSameUptoRow.holds Try.pinned (OpenSpec.upto transferSameSpec)

/-- 'treadwheellaw.HeapCollects', WHERE WHAT IT READS IS OF BULK AT MOST 1048576: true; the input reads as it did. -/
def heapCollectsUptoRow : OpenClaim := { program := "ytfafnjkinolkmaa", sum := "23f7cde4c0640f1afd95acb766dfac765c55284281bd4ef1eca82226b9a9584d", func := "treadwheel/treadwheellaw.HeapCollects", spec := "heapCollects", unfollowed := true, recurses := true, apart := false, narrowed := true }
def HeapCollectsUptoSaid : Prop := heapCollectsUptoRow.holds Try.pinned (OpenSpec.upto heapCollectsSpec)

/-- 'treadwheelkeep.CollectSame', WHERE WHAT IT READS IS OF BULK AT MOST 1048576: true; the input reads as it did. -/
def collectSameUptoRow : OpenClaim := { program := "ytfafnjkinolkmaa", sum := "23f7cde4c0640f1afd95acb766dfac765c55284281bd4ef1eca82226b9a9584d", func := "treadwheel/treadwheelkeep.CollectSame", spec := "collectSame", unfollowed := true, recurses := true, apart := false, narrowed := true }
def CollectSameUptoSaid : Prop := collectSameUptoRow.holds Try.pinned (OpenSpec.upto collectSameSpec)

end Rows
end Go.Proofs.Ytfafnjkinolkmaa

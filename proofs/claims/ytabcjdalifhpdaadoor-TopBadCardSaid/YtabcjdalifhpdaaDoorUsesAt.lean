/- The table of operators, as the program's text lays it, in memory. No condition. -/
import Derived.Test.YtabcjdalifhpdaaDoorSpecC
import Derived.Test.YtabcjdalifhpdaaDoorHeapA
namespace Go.Proofs.YtabcjdalifhpdaaDoor
open Go.RowKit
def UsesAt (w : World) : Prop := ∀ (i : Nat) (u : Int), usesT[i]? = some u → w.cell? ⟨0, i, none⟩ = some (.int .i64 u)
theorem UsesAt.keep {w w' : World} (h : UsesAt w) (hk : w'.heap[0]? = w.heap[0]?) : UsesAt w' := fun i u hu => (cell_keep hk).trans (h i u hu)
theorem UsesAt.lt {w : World} (h : UsesAt w) : 0 < w.heap.size := lt_of_cell (h 0 0 rfl)
theorem UsesAt.below {w w' : World} (h : UsesAt w) (hb : Below w.heap.size w w') : UsesAt w' := h.keep (hb.block _ h.lt)
theorem UsesAt.alloc {w : World} (h : UsesAt w) (o : Obj) : UsesAt (w.alloc o) := h.keep (Below.heap_alloc _ _ _ h.lt)
end Go.Proofs.YtabcjdalifhpdaaDoor

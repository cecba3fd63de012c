/- The walk of the document's answer to heap.Alloc. No condition beside what is read. -/
import Derived.Test.YtabcjdalifhpdaaAlloc
import Derived.Test.YtabcjdalifhpdaaHeapCopy
namespace Go.Proofs.Ytabcjdalifhpdaa
open Go.RowKit
end Go.Proofs.Ytabcjdalifhpdaa

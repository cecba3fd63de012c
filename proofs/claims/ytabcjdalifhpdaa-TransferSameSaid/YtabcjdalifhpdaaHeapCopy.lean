/- The walk of the document's copy of a heap: the same heap, each object's fields in a row of their own. No condition beside what is read. -/
import Derived.Test.YtabcjdalifhpdaaCloneH
import Derived.Test.YtabcjdalifhpdaaValues
import Derived.Test.YtabcjdalifhpdaaRegion
namespace Go.Proofs.Ytabcjdalifhpdaa
open Go.RowKit
end Go.Proofs.Ytabcjdalifhpdaa

/- The walk of the document's copy of a list of values: a new row that holds the same. No condition beside what is read. -/
import Derived.Test.YtabcjdalifhpdaaCloneH
namespace Go.Proofs.Ytabcjdalifhpdaa
open Go.RowKit
end Go.Proofs.Ytabcjdalifhpdaa

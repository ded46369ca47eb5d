/- FoldLast: the last write of a key is what the map behind a history says of it, for every history. -/
import Derived.Test.YtjhbihhiceimcaaFLast
import Derived.Test.YtjhbihhiceimcaaSpecFoldLast
namespace Go.Proofs.Ytjhbihhiceimcaa.Pure
open Go.RowKit
theorem FoldLast : PFold.latticelaw18_FoldLast.Pure := fun x0 x1 _ _ => (FM.last_ev x0 x1).rounds
end Go.Proofs.Ytjhbihhiceimcaa.Pure

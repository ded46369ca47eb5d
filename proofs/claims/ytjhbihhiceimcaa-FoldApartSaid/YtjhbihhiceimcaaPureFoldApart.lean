/- FoldApart: what the map says of a key depends on that key's records alone, for every history. -/
import Derived.Test.YtjhbihhiceimcaaFApart
import Derived.Test.YtjhbihhiceimcaaSpecFoldApart
namespace Go.Proofs.Ytjhbihhiceimcaa.Pure
open Go.RowKit
theorem FoldApart : PFold.latticelaw18_FoldApart.Pure := fun x0 x1 _ _ => (FM.Apart.apart_ev x0 x1).rounds
end Go.Proofs.Ytjhbihhiceimcaa.Pure

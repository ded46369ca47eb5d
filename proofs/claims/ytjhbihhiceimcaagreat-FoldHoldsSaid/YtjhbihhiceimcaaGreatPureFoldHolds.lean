/- FoldHolds: extends, once and place are what the reference says, for any two histories and any request. -/
import Derived.Test.YtjhbihhiceimcaaGreatFAllHolds
import Derived.Test.YtjhbihhiceimcaaGreatSpecFoldHolds
namespace Go.Proofs.YtjhbihhiceimcaaGreat.Pure
open Go.RowKit
theorem FoldHolds : PFZ.latticelaw18_FoldHolds.Pure := fun x0 x1 x2 _ _ _ => (FM.holds_ev x0 x1 x2).rounds
end Go.Proofs.YtjhbihhiceimcaaGreat.Pure

/- FoldTells: the history of any records and the map behind each beginning are what the reference says. -/
import Derived.Test.YtjhbihhiceimcaaGreatFTells
import Derived.Test.YtjhbihhiceimcaaGreatSpecFoldTells
namespace Go.Proofs.YtjhbihhiceimcaaGreat.Pure
open Go.RowKit
theorem FoldTells : PFZ.latticelaw18_FoldTells.Pure := fun x0 x1 _ _ => (FM.tells_ev x0 x1).rounds
end Go.Proofs.YtjhbihhiceimcaaGreat.Pure

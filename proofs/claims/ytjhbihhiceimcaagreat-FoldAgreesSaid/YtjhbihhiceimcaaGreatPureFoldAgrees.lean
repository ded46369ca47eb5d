/- FoldAgrees: the least beginning of a history behind which an operation gives a result is the reference's, for any history, operation, result and start. -/
import Derived.Test.YtjhbihhiceimcaaGreatFAll
import Derived.Test.YtjhbihhiceimcaaGreatSpecFoldAgrees
namespace Go.Proofs.YtjhbihhiceimcaaGreat.Pure
open Go.RowKit
theorem FoldAgrees : PFZ.latticelaw18_FoldAgrees.Pure := fun x0 x1 _ _ => (FM.agrees_law x0 x1.f0.f0 x1.f0.f1 x1.f0.f2 x1.f1.f0 x1.f1.f1 x1.f1.f2 x1.f2).rounds
end Go.Proofs.YtjhbihhiceimcaaGreat.Pure

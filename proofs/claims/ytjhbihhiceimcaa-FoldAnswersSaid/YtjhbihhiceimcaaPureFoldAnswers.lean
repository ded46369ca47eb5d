/- FoldAnswers: what each operation gives of a map is what the reference says, for every list of entries and every operation. -/
import Derived.Test.YtjhbihhiceimcaaFAnswers
import Derived.Test.YtjhbihhiceimcaaSpecFoldAnswers
namespace Go.Proofs.Ytjhbihhiceimcaa.Pure
open Go.RowKit
theorem FoldAnswers : PFA.latticelaw18_FoldAnswers.Pure := fun x0 x1 h0 _ => (FM.Answers.answers_ev x0 x1.f0 x1.f1 x1.f2 (by have := h0.1; omega) (fun e he => (h0.2 e he).1)).rounds
end Go.Proofs.Ytjhbihhiceimcaa.Pure

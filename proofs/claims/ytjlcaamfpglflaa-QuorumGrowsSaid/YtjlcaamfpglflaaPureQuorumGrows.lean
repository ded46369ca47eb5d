/- The statement QuorumGrows: for every input, a majority has what Commit tells, no majority has more, and it does not fall as nodes have more. No condition. -/
import Derived.Test.YtjlcaamfpglflaaQGrows2
namespace Go.Proofs.Ytjlcaamfpglflaa.Pure
theorem QuorumGrows : PQuorum.latticelaw21_QuorumGrows.Pure := QL.QuorumGrows
end Go.Proofs.Ytjlcaamfpglflaa.Pure

/- The statement QuorumCommits: for every input, the program's and the reference's greatest number that a majority has are the same. No condition. -/
import Derived.Test.YtjlcaamfpglflaaQCommits
namespace Go.Proofs.Ytjlcaamfpglflaa.Pure
theorem QuorumCommits : PQuorum.latticelaw21_QuorumCommits.Pure := QL.QuorumCommits
end Go.Proofs.Ytjlcaamfpglflaa.Pure

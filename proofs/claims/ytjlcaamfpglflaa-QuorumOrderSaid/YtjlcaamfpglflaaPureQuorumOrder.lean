/- The statement QuorumOrder: for every input, the order of the nodes says nothing of what is committed. No condition. -/
import Derived.Test.YtjlcaamfpglflaaQGrows2
namespace Go.Proofs.Ytjlcaamfpglflaa.Pure
theorem QuorumOrder : PQuorum.latticelaw21_QuorumOrder.Pure := QL.QuorumOrder
end Go.Proofs.Ytjlcaamfpglflaa.Pure

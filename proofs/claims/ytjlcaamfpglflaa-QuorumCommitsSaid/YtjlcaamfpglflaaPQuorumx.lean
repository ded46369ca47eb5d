-- Printed by wip/tools/myprint.py (over the kit's print.py), with hand-written contracts; Lean checks all of it.
import Derived.Test.YtjlcaamfpglflaaPQuorumx0
import Derived.Test.YtjlcaamfpglflaaPQuorumx1
import Derived.Test.YtjlcaamfpglflaaPQuorumx2
import Derived.Test.YtjlcaamfpglflaaPQuorumx3
namespace Go.Proofs.Ytjlcaamfpglflaa.PQuorum
open Go.RowKit Go.Proofs.YtjlcaamfpglflaaW.PrintWords Go.Proofs.YtjlcaamfpglflaaW.PrintLast Go.Proofs.YtjlcaamfpglflaaW.PrintMore
attribute [local go_sem] max2_int min2_int max_two min_two max_three min_three max_four min_four   -- for this text's walks alone
set_option linter.unusedVariables false
set_option linter.unusedSimpArgs false

end Go.Proofs.Ytjlcaamfpglflaa.PQuorum

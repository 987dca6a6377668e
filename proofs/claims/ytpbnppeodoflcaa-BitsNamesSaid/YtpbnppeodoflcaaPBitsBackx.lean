-- A text that a program of this session printed; Lean checks it.
import Derived.Test.YtpbnppeodoflcaaPBitsBackx0
import Derived.Test.YtpbnppeodoflcaaPBitsBackx1
import Derived.Test.YtpbnppeodoflcaaPBitsBackx2
namespace Go.Proofs.Ytpbnppeodoflcaa.PBitsBack
open Go.Proofs.Ytpbnppeodoflcaa.E
open Go.RowKit Go.Proofs.YtpbnppeodoflcaaW.PrintWords Go.Proofs.YtpbnppeodoflcaaW.PrintLast Go.Proofs.YtpbnppeodoflcaaW.PrintMore
attribute [local go_sem] max2_int min2_int max_two min_two max_three min_three max_four min_four   -- for this text's walks alone
set_option linter.unusedVariables false
set_option linter.unusedSimpArgs false

end Go.Proofs.Ytpbnppeodoflcaa.PBitsBack

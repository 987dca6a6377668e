-- A text that a program of this session printed; Lean checks it.
import Derived.Test.YtpbnppeodoflcaaPR3x0
import Derived.Test.YtpbnppeodoflcaaPR3x1
import Derived.Test.YtpbnppeodoflcaaPR3x2
import Derived.Test.YtpbnppeodoflcaaPR3x3
namespace Go.Proofs.Ytpbnppeodoflcaa.PR3
open Go.RowKit Go.Proofs.YtpbnppeodoflcaaW.PrintWords Go.Proofs.YtpbnppeodoflcaaW.PrintLast Go.Proofs.YtpbnppeodoflcaaW.PrintMore
attribute [local go_sem] max2_int min2_int max_two min_two max_three min_three max_four min_four   -- for this text's walks alone
set_option linter.unusedVariables false
set_option linter.unusedSimpArgs false

end Go.Proofs.Ytpbnppeodoflcaa.PR3

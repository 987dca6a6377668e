-- A text that a program of this session printed; Lean checks it.
import Derived.Test.YtpbnppeodoflcaaPPgx0
import Derived.Test.YtpbnppeodoflcaaPPgx1
import Derived.Test.YtpbnppeodoflcaaPPgx2
namespace Go.Proofs.Ytpbnppeodoflcaa.PPg
open Go.Proofs.Ytpbnppeodoflcaa.E
open Go.RowKit Go.Proofs.YtpbnppeodoflcaaW.PrintWords Go.Proofs.YtpbnppeodoflcaaW.PrintLast Go.Proofs.YtpbnppeodoflcaaW.PrintMore
attribute [local go_sem] max2_int min2_int max_two min_two max_three min_three max_four min_four   -- for this text's walks alone
set_option linter.unusedVariables false
set_option linter.unusedSimpArgs false

end Go.Proofs.Ytpbnppeodoflcaa.PPg

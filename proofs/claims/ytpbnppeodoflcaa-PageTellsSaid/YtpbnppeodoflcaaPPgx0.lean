-- A text that a program of this session printed; Lean checks it.
import Derived.Test.YtpbnppeodoflcaaProg
import Derived.Below
import Derived.Deep.Draws
import Derived.Deep.AppendLies
import Derived.Maps.AppendAt
import Derived.OwnWalk
import Derived.Laws.BytesArg
import Derived.Laws.MakeOwn
import Derived.Laws.OwnMore
import Derived.Deep.OwnRows
import Derived.Tactics
import Derived.Lib.ConvBytes
import Derived.Laws.Slices
import Derived.WalkKit
import Derived.KernelRfl
import Derived.RowKit3
import Derived.Deep.LoopGhost
import Derived.Deep.QuietTactic
import Derived.BigQuiet
import Derived.WideLaws
import Derived.Deep.DeepCutAuto
import Derived.Deep.CutBlock
import Derived.Deep.RegionHeld3
import Derived.Laws.Rows
import Derived.Lib.AppendStr
import Derived.ArgAppend
import Derived.Laws.IdiomCopy
import Derived.OrdersHeld
import Derived.Laws.BitsLemmas
import Derived.RowKit
import Derived.Test.YtpbnppeodoflcaaE2
import Derived.Test.YtpbnppeodoflcaaF4
import Derived.Test.YtpbnppeodoflcaaF5
import Derived.Test.YtpbnppeodoflcaaWWords
import Derived.Test.YtpbnppeodoflcaaWLast
import Derived.Test.YtpbnppeodoflcaaWTab
import Derived.Test.YtpbnppeodoflcaaWFour
import Derived.Test.YtpbnppeodoflcaaWQPut
import Derived.Test.YtpbnppeodoflcaaWApart
import Derived.Test.YtpbnppeodoflcaaWArr
import Derived.Test.YtpbnppeodoflcaaWZeros
import Derived.Test.YtpbnppeodoflcaaWFoot
import Derived.Test.YtpbnppeodoflcaaWKept
import Derived.Test.YtpbnppeodoflcaaWShare
import Derived.Test.YtpbnppeodoflcaaWN
import Derived.Test.YtpbnppeodoflcaaWFootNe
import Derived.Test.YtpbnppeodoflcaaWAt
import Derived.Test.YtpbnppeodoflcaaWEqStruct
import Derived.Test.YtpbnppeodoflcaaWRepsOne
import Derived.Test.YtpbnppeodoflcaaWInv
import Derived.Test.YtpbnppeodoflcaaWInvWords
import Derived.Test.YtpbnppeodoflcaaWGuard
import Derived.Test.YtpbnppeodoflcaaWNEv
import Derived.Test.YtpbnppeodoflcaaWMore
namespace Go.Proofs.Ytpbnppeodoflcaa.PPg
open Go.Proofs.Ytpbnppeodoflcaa.E
open Go.RowKit Go.Proofs.YtpbnppeodoflcaaW.PrintWords Go.Proofs.YtpbnppeodoflcaaW.PrintLast Go.Proofs.YtpbnppeodoflcaaW.PrintMore
attribute [local go_sem] max2_int min2_int max_two min_two max_three min_three max_four min_four   -- for this text's walks alone
set_option linter.unusedVariables false
set_option linter.unusedSimpArgs false



def errW : Option Int → Value
  | none => .nilIface
  | some c => .iface 0 (.int .i64 c)
theorem errW_none : errW none = .nilIface := rfl
theorem errW_some (c : Int) : errW (some c) = .iface 0 (.int .i64 c) := rfl

theorem info5 : (Try.prog.info? 5).map (fun i => (i.zero, i.size, i.bytes)) = some (some (.int .u8 0), 1, 1) := by kernel_rfl
-- the values' own types

end Go.Proofs.Ytpbnppeodoflcaa.PPg

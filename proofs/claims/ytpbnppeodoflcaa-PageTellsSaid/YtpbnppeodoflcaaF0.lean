/- Small facts on whole numbers, for the laws that need no sets. -/
import Derived.Test.YtpbnppeodoflcaaK
namespace Go.Proofs.Ytpbnppeodoflcaa.E
open Go.RowKit Go.Proofs.YtpbnppeodoflcaaW.PrintWords Go.Proofs.YtpbnppeodoflcaaW.PrintLast Go.Proofs.YtpbnppeodoflcaaW.PrintMore Go.Proofs.Ytpbnppeodoflcaa.K
theorem w64_id {x : Int} (h0 : -9223372036854775808 ≤ x) (h1 : x ≤ 9223372036854775807) : wrap64 x = x := by unfold wrap64; omega
theorem wfu8 {x : Int} (h : (Lit.int .u8 x).wf = true) : 0 ≤ x ∧ x < 256 := by
  simp [Lit.wf, IntKind.bits, IntKind.signed, IntKind.min, IntKind.max] at h
  omega
theorem wfi64 {x : Int} (h : (Lit.int .i64 x).wf = true) : -9223372036854775808 ≤ x ∧ x ≤ 9223372036854775807 := by
  simp [Lit.wf, IntKind.bits, IntKind.signed, IntKind.min, IntKind.max] at h
  omega
end Go.Proofs.Ytpbnppeodoflcaa.E

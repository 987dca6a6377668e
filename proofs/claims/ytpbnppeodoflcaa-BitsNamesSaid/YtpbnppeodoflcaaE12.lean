/- Small facts for the plain laws of sets. -/
import Derived.Test.YtpbnppeodoflcaaE11
namespace Go.Proofs.Ytpbnppeodoflcaa.E
open Go.RowKit Go.Proofs.YtpbnppeodoflcaaW.PrintWords Go.Proofs.YtpbnppeodoflcaaW.PrintLast Go.Proofs.YtpbnppeodoflcaaW.PrintMore Go.Proofs.Ytpbnppeodoflcaa.K
set_option linter.unusedVariables false
set_option linter.unusedSimpArgs false

theorem wf_u8 {x : Int} (h : (Lit.int .u8 x).wf = true) : 0 ≤ x ∧ x < 256 := by
  simp [Lit.wf, IntKind.bits, IntKind.signed, IntKind.min, IntKind.max] at h
  omega
theorem wf_i64 {x : Int} (h : (Lit.int .i64 x).wf = true) : -9223372036854775808 ≤ x ∧ x ≤ 9223372036854775807 := by
  simp [Lit.wf, IntKind.bits, IntKind.signed, IntKind.min, IntKind.max] at h
  omega
theorem okB_wf {l : List Int} (h : ∀ x ∈ l, (Lit.int .u8 x).wf = true) : okB l = true :=
  List.all_eq_true.2 fun x hx => by have := wf_u8 (h x hx); simpa using this
theorem i64B_wf {x : Int} (h : (Lit.int .i64 x).wf = true) : i64B x = true := by
  have := wf_i64 h
  simp [i64B]; omega
theorem trk_length (l : List Int) : ∀ o : Int, (trk o l).length ≤ 8 * l.length := by
  induction l with
  | nil => intro o; simp [trk]
  | cons a l ih =>
    intro o
    have := ih (o + 8)
    have hb : (bl a).length ≤ 8 := by unfold bl; rw [List.length_map]; exact List.length_filter_le _ _
    simp only [trk, List.length_append, List.length_map, List.length_cons]
    omega
theorem listS_length (n : Int) (s : List Int) : (listS n s).1.length ≤ 8 * s.length := by
  unfold listS
  split
  · exact trk_length s 0
  · simp
end Go.Proofs.Ytpbnppeodoflcaa.E

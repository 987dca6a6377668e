/- The plain law of BitsAsked. -/
import Derived.Test.YtpbnppeodoflcaaE12
import Derived.Test.YtpbnppeodoflcaaPBitsAskedx
namespace Go.Proofs.Ytpbnppeodoflcaa.Pure
open Go.RowKit Go.Proofs.Ytpbnppeodoflcaa.PBitsAsked Go.Proofs.Ytpbnppeodoflcaa.E Go.Proofs.YtpbnppeodoflcaaW.PrintWords Go.Proofs.YtpbnppeodoflcaaW.PrintLast

theorem BitsAsked : catamaranlaw03_BitsAsked.Pure := by
  intro a0 l1 a2 h0 hm h1 hw h2
  unfold catamaranlaw03_BitsAsked.f
  split
  · rfl
  rename_i hl
  have hb := okB_wf hw
  have ht := i64B_wf h2
  have hs := listS_length a0 l1
  simp only [Option.bind_some, List.nil_append]
  rw [if_pos (by simp; omega)]
  simp only [q_List.f, q3_List.f, q_Count.f, q3_Count.f, q_Has.f, q3_Has.f, q_Next.f, q3_Next.f, q3_Same.f, hb, ht, if_true, Option.bind_some]
  rw [if_pos (by omega)]
  simp
end Go.Proofs.Ytpbnppeodoflcaa.Pure

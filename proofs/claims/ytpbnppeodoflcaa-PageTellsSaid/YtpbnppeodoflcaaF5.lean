/- The reference's full set, in plain words. -/
import Derived.Test.YtpbnppeodoflcaaF4
import Derived.Test.YtpbnppeodoflcaaF0
import Derived.Test.YtpbnppeodoflcaaE2
import Derived.Test.YtpbnppeodoflcaaPR3x
namespace Go.Proofs.Ytpbnppeodoflcaa.E
open Go.RowKit Go.Proofs.YtpbnppeodoflcaaW.PrintWords Go.Proofs.YtpbnppeodoflcaaW.PrintLast Go.Proofs.YtpbnppeodoflcaaW.PrintMore Go.Proofs.Ytpbnppeodoflcaa.K
set_option linter.unusedVariables false
set_option linter.unusedSimpArgs false

def q3_Full.f (n : Int) : Option (List Int) := if 1 ≤ n ∧ n ≤ 16 then some (allB n) else none
theorem full_tells : ∀ n : Nat, n < 16 → PR3.catamaranref03_Full.f 60 ((n + 1 : Nat) : Int) = some (allB ((n + 1 : Nat) : Int)) := by decide +kernel
theorem q3_Full.calls (a0 : Int) (r : List Int) (w : World) (h : q3_Full.f a0 = some r) :
    Calls Try.prog 79 #[.int .i64 a0] w fun e w' => ∃ v0_ : Value, e = .returned (v0_) ∧ Kd.R (Kd.int .u8) 5 w' w.heap.size (fun _ => True) v0_ r ∧ Below w.heap.size w w' := by
  unfold q3_Full.f at h
  split at h
  · rename_i hn
    obtain ⟨n, rfl⟩ : ∃ n : Nat, a0 = ((n + 1 : Nat) : Int) := ⟨(a0 - 1).toNat, by omega⟩
    exact PR3.catamaranref03_Full.calls 60 _ r w (by rw [full_tells n (by omega)]; exact h)
  · simp at h
end Go.Proofs.Ytpbnppeodoflcaa.E

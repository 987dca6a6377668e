/- bits.Check, told plainly. -/
import Derived.Test.YtpbnppeodoflcaaE2
import Derived.Test.YtpbnppeodoflcaaPCkx1
namespace Go.Proofs.Ytpbnppeodoflcaa.E
open Go.RowKit Go.Proofs.YtpbnppeodoflcaaW.PrintWords Go.Proofs.YtpbnppeodoflcaaW.PrintLast Go.Proofs.YtpbnppeodoflcaaW.PrintMore Go.Proofs.Ytpbnppeodoflcaa.K
set_option linter.unusedVariables false
set_option linter.unusedSimpArgs false

/-- May it be a set: its pages are no more, and none has a track beyond. -/
def okS (all s : List Int) : Bool := s.length == all.length && (List.range s.length).all fun i => Go.bits .andNot .u8 (rd s (i : Int)) (rd all (i : Int)) == 0
/-- The error of a set of n tracks. -/
def ckS (n : Int) (s : List Int) : Int := if 1 ≤ n ∧ n ≤ 16 then (if okS (allB n) s = true then 0 else 8) else 2
theorem allB_len (n : Int) : (allB n).length ≤ 2 := by unfold allB; split <;> simp
theorem ck_loop (all s : List Int) (hl : s.length = all.length) (h2 : s.length ≤ 2) (d : Nat) : ∀ (k i : Nat), i ≤ s.length → s.length - i = d → d < k →
    PCk.bits_Check.l0 k all s (s.length : Int) (i : Int) = some (if ((List.range' i (s.length - i)).all fun i => Go.bits .andNot .u8 (rd s (i : Int)) (rd all (i : Int)) == 0) = true then 0 else 8) := by
  induction d with
  | zero =>
    intro k i h0 hd hk
    obtain ⟨k, rfl⟩ : ∃ m, k = m + 1 := ⟨k - 1, by omega⟩
    obtain rfl : i = s.length := by omega
    simp only [PCk.bits_Check.l0]
    rw [if_neg (by omega), Nat.sub_self]
    rfl
  | succ d ih =>
    intro k i h0 hd hk
    obtain ⟨k, rfl⟩ : ∃ m, k = m + 1 := ⟨k - 1, by omega⟩
    simp only [PCk.bits_Check.l0]
    rw [if_pos (by omega), if_pos (by omega), if_pos (by omega), if_pos (by omega)]
    have hr : List.range' i (s.length - i) = i :: List.range' (i + 1) (s.length - (i + 1)) := by
      rw [show s.length - i = (s.length - (i + 1)) + 1 from by omega, List.range'_succ]
    rw [hr, List.all_cons]
    by_cases hz : Go.bits .andNot .u8 (rd s (i : Int)) (rd all (i : Int)) = 0
    · rw [if_pos hz]
      have hw : wrap64 ((i : Int) + 1) = ((i + 1 : Nat) : Int) := by unfold wrap64; omega
      rw [hw, ih k (i + 1) (by omega) (by omega) (by omega), hz]
      rfl
    · rw [if_neg hz]
      have : (Go.bits .andNot .u8 (rd s (i : Int)) (rd all (i : Int)) == 0) = false := by simpa using hz
      rw [this]
      simp
theorem ck_tells (n : Int) (s : List Int) : PCk.bits_Check.f 3 n s = some (ckS n s) := by
  unfold PCk.bits_Check.f bits_All.f ckS
  by_cases hn : 1 ≤ n ∧ n ≤ 16
  · rw [if_pos hn, if_pos hn]
    simp only [Option.bind_some, if_true]
    by_cases hl : s.length = (allB n).length
    · rw [if_pos (by omega)]
      have h2 := allB_len n
      have := ck_loop (allB n) s hl (by omega) s.length 3 0 (by omega) (by omega) (by omega)
      rw [show ((0 : Nat) : Int) = 0 from rfl] at this
      rw [this]
      unfold okS
      simp only [Nat.sub_zero, hl, beq_self_eq_true, Bool.true_and, List.range_eq_range']
    · rw [if_neg (by omega)]
      unfold okS
      have : (s.length == (allB n).length) = false := by simpa using hl
      rw [this]
      simp
  · rw [if_neg hn, if_neg hn]
    simp

def bits_Check.f (a0 : Int) (a1 : List Int) : Option Int := some (ckS a0 a1)
theorem bits_Check.calls (a0 : Int) (A1 : Option Addr) (c1 : Nat) (l1 : List Int) (r : Int) (w : World) (hr1 : Kd.C (Kd.int .u8) w A1 l1.length l1) (hc1 : l1.length ≤ c1) (h : bits_Check.f a0 l1 = some r) :
    Calls Try.prog 62 #[.int .i64 a0, .slice A1 l1.length c1] w fun e w' => e = .returned (.int .i64 r) ∧ Below w.heap.size w w' :=
  PCk.bits_Check.calls 3 a0 A1 c1 l1 r w hr1 hc1 (by rw [ck_tells]; exact h)
end Go.Proofs.Ytpbnppeodoflcaa.E

/- Sets of tracks: the contracts, told in plain words. -/
import Derived.Test.YtpbnppeodoflcaaE10
namespace Go.Proofs.Ytpbnppeodoflcaa.E
open Go.RowKit Go.Proofs.YtpbnppeodoflcaaW.PrintWords Go.Proofs.YtpbnppeodoflcaaW.PrintLast Go.Proofs.YtpbnppeodoflcaaW.PrintMore Go.Proofs.Ytpbnppeodoflcaa.K
set_option linter.unusedVariables false
set_option linter.unusedSimpArgs false

def i64B (t : Int) : Bool := decide (-9223372036854775808 ≤ t) && decide (t ≤ 9223372036854775807)
def listS (n : Int) (s : List Int) : List Int × Int := if ckS n s = 0 then (trk 0 s, 0) else ([], ckS n s)
def q_List.f (a0 : Int) (l : List Int) : Option (List Int × Int) := if okB l = true then some (listS a0 l) else none
theorem q_List.calls (a0 : Int) (A1 : Option Addr) (c1 : Nat) (l1 : List Int) (r1 : List Int) (r2 : Int) (w : World) (hr1 : Kd.C (Kd.int .u8) w A1 l1.length l1) (hc1 : l1.length ≤ c1) (h : q_List.f a0 l1 = some (r1, r2)) :
    Calls Try.prog 19 #[.int .i64 a0, .slice A1 l1.length c1] w fun e w' => ∃ v0_ : Value, e = .returned (.tuple #[v0_, .int .i64 r2]) ∧ Kd.R (Kd.int .i64) 3 w' w.heap.size (fun _ => True) v0_ r1 ∧ Below w.heap.size w w' :=
  bits_List.calls a0 A1 c1 l1 r1 r2 w hr1 hc1 h
def q_Count.f (a0 : Int) (l : List Int) : Option (Int × Int) := if okB l = true then some (cntS a0 l) else none
theorem q_Count.calls (a0 : Int) (A1 : Option Addr) (c1 : Nat) (l1 : List Int) (r1 : Int) (r2 : Int) (w : World) (hr1 : Kd.C (Kd.int .u8) w A1 l1.length l1) (hc1 : l1.length ≤ c1) (h : q_Count.f a0 l1 = some (r1, r2)) :
    Calls Try.prog 21 #[.int .i64 a0, .slice A1 l1.length c1] w fun e w' => e = .returned (.tuple #[.int .i64 r1, .int .i64 r2]) ∧ Below w.heap.size w w' := by
  unfold q_Count.f at h
  split at h
  · rename_i hb
    exact PCt.bits_Count.calls 3 a0 A1 c1 l1 r1 r2 w hr1 hc1 (by rw [count_tells a0 l1 hb]; exact h)
  · simp at h
def q_Has.f (a0 : Int) (l : List Int) (a2 : Int) : Option (Bool × Int) := if okB l = true then some (hasS a0 l a2) else none
theorem q_Has.calls (a0 : Int) (A1 : Option Addr) (c1 : Nat) (l1 : List Int) (a2 : Int) (r1 : Bool) (r2 : Int) (w : World) (hr1 : Kd.C (Kd.int .u8) w A1 l1.length l1) (hc1 : l1.length ≤ c1) (h : q_Has.f a0 l1 a2 = some (r1, r2)) :
    Calls Try.prog 23 #[.int .i64 a0, .slice A1 l1.length c1, .int .i64 a2] w fun e w' => e = .returned (.tuple #[.bool r1, .int .i64 r2]) ∧ Below w.heap.size w w' := by
  unfold q_Has.f at h
  split at h
  · rename_i hb
    exact PHs.bits_Has.calls a0 A1 c1 l1 a2 r1 r2 w hr1 hc1 (by rw [has_tells a0 l1 hb]; exact h)
  · simp at h
def q_Next.f (a0 : Int) (l : List Int) (a2 : Int) : Option (Int × Int) := if okB l = true then some (nextS a0 l a2) else none
theorem q_Next.calls (a0 : Int) (A1 : Option Addr) (c1 : Nat) (l1 : List Int) (a2 : Int) (r1 : Int) (r2 : Int) (w : World) (hr1 : Kd.C (Kd.int .u8) w A1 l1.length l1) (hc1 : l1.length ≤ c1) (h : q_Next.f a0 l1 a2 = some (r1, r2)) :
    Calls Try.prog 25 #[.int .i64 a0, .slice A1 l1.length c1, .int .i64 a2] w fun e w' => e = .returned (.tuple #[.int .i64 r1, .int .i64 r2]) ∧ Below w.heap.size w w' := by
  unfold q_Next.f at h
  split at h
  · rename_i hb
    exact bits_Next.calls a0 A1 c1 l1 a2 r1 r2 w hr1 hc1 (by rw [next_tells a0 l1 hb]; exact h)
  · simp at h

def q3_In.f (l : List Int) (t : Int) : Option Bool := if okB l = true then (if i64B t = true then some (inS l t) else none) else none
theorem q3_In.calls (A0 : Option Addr) (c0 : Nat) (l0 : List Int) (a1 : Int) (r : Bool) (w : World) (hr0 : Kd.C (Kd.int .u8) w A0 l0.length l0) (hc0 : l0.length ≤ c0) (h : q3_In.f l0 a1 = some r) :
    Calls Try.prog 88 #[.slice A0 l0.length c0, .int .i64 a1] w fun e w' => e = .returned (.bool r) ∧ Drawn0 w w' := by
  unfold q3_In.f at h
  split at h
  · rename_i hb
    split at h
    · rename_i ht
      simp only [i64B, Bool.and_eq_true, decide_eq_true_eq] at ht
      exact PR3.catamaranref03_In.calls (0 + 9) A0 c0 l0 a1 r w hr0 hc0 (by rw [In_tells l0 hb a1 ht.1 ht.2 0]; exact h)
    · simp at h
  · simp at h
def q3_Check.f (a0 : Int) (l : List Int) : Option Int := if okB l = true then some (ckS a0 l) else none
theorem q3_Check.calls (a0 : Int) (A1 : Option Addr) (c1 : Nat) (l1 : List Int) (r : Int) (w : World) (hr1 : Kd.C (Kd.int .u8) w A1 l1.length l1) (hc1 : l1.length ≤ c1) (h : q3_Check.f a0 l1 = some r) :
    Calls Try.prog 84 #[.int .i64 a0, .slice A1 l1.length c1] w fun e w' => e = .returned (.int .i64 r) ∧ Drawn0 w w' := by
  unfold q3_Check.f at h
  split at h
  · rename_i hb
    exact PR3.catamaranref03_Check.calls (0 + 40) a0 A1 c1 l1 r w hr1 hc1 (by rw [Check_tells a0 l1 hb 0]; exact h)
  · simp at h
def q3_List.f (a0 : Int) (l : List Int) : Option (List Int × Int) := if okB l = true then some (listS a0 l) else none
theorem q3_List.calls (a0 : Int) (A1 : Option Addr) (c1 : Nat) (l1 : List Int) (r1 : List Int) (r2 : Int) (w : World) (hr1 : Kd.C (Kd.int .u8) w A1 l1.length l1) (hc1 : l1.length ≤ c1) (h : q3_List.f a0 l1 = some (r1, r2)) :
    Calls Try.prog 20 #[.int .i64 a0, .slice A1 l1.length c1] w fun e w' => ∃ v0_ : Value, e = .returned (.tuple #[v0_, .int .i64 r2]) ∧ Kd.R (Kd.int .i64) 3 w' w.heap.size (fun _ => True) v0_ r1 ∧ Below w.heap.size w w' := by
  unfold q3_List.f at h
  split at h
  · rename_i hb
    exact PR3.catamaranref03_List.calls (0 + 40) a0 A1 c1 l1 r1 r2 w hr1 hc1 (by rw [List_tells a0 l1 hb 0]; exact h)
  · simp at h
def q3_Count.f (a0 : Int) (l : List Int) : Option (Int × Int) := if okB l = true then some (cntS a0 l) else none
theorem q3_Count.calls (a0 : Int) (A1 : Option Addr) (c1 : Nat) (l1 : List Int) (r1 : Int) (r2 : Int) (w : World) (hr1 : Kd.C (Kd.int .u8) w A1 l1.length l1) (hc1 : l1.length ≤ c1) (h : q3_Count.f a0 l1 = some (r1, r2)) :
    Calls Try.prog 22 #[.int .i64 a0, .slice A1 l1.length c1] w fun e w' => e = .returned (.tuple #[.int .i64 r1, .int .i64 r2]) ∧ Below w.heap.size w w' := by
  unfold q3_Count.f at h
  split at h
  · rename_i hb
    exact PR3.catamaranref03_Count.calls (0 + 40) a0 A1 c1 l1 r1 r2 w hr1 hc1 (by rw [Count_tells a0 l1 hb 0]; exact h)
  · simp at h
def q3_Has.f (a0 : Int) (l : List Int) (t : Int) : Option (Bool × Int) := if okB l = true then (if i64B t = true then some (hasS a0 l t) else none) else none
theorem q3_Has.calls (a0 : Int) (A1 : Option Addr) (c1 : Nat) (l1 : List Int) (a2 : Int) (r1 : Bool) (r2 : Int) (w : World) (hr1 : Kd.C (Kd.int .u8) w A1 l1.length l1) (hc1 : l1.length ≤ c1) (h : q3_Has.f a0 l1 a2 = some (r1, r2)) :
    Calls Try.prog 24 #[.int .i64 a0, .slice A1 l1.length c1, .int .i64 a2] w fun e w' => e = .returned (.tuple #[.bool r1, .int .i64 r2]) ∧ Drawn0 w w' := by
  unfold q3_Has.f at h
  split at h
  · rename_i hb
    split at h
    · rename_i ht
      simp only [i64B, Bool.and_eq_true, decide_eq_true_eq] at ht
      exact PR3.catamaranref03_Has.calls (0 + 40) a0 A1 c1 l1 a2 r1 r2 w hr1 hc1 (by rw [Has_tells a0 l1 hb a2 ht.1 ht.2 0]; exact h)
    · simp at h
  · simp at h
def q3_Next.f (a0 : Int) (l : List Int) (t : Int) : Option (Int × Int) := if okB l = true then (if i64B t = true then some (nextS a0 l t) else none) else none
theorem q3_Next.calls (a0 : Int) (A1 : Option Addr) (c1 : Nat) (l1 : List Int) (a2 : Int) (r1 : Int) (r2 : Int) (w : World) (hr1 : Kd.C (Kd.int .u8) w A1 l1.length l1) (hc1 : l1.length ≤ c1) (h : q3_Next.f a0 l1 a2 = some (r1, r2)) :
    Calls Try.prog 26 #[.int .i64 a0, .slice A1 l1.length c1, .int .i64 a2] w fun e w' => e = .returned (.tuple #[.int .i64 r1, .int .i64 r2]) ∧ Drawn0 w w' := by
  unfold q3_Next.f at h
  split at h
  · rename_i hb
    split at h
    · rename_i ht
      simp only [i64B, Bool.and_eq_true, decide_eq_true_eq] at ht
      exact PR3.catamaranref03_Next.calls (0 + 40) a0 A1 c1 l1 a2 r1 r2 w hr1 hc1 (by rw [Next_tells a0 l1 hb a2 ht.1 ht.2 0]; exact h)
    · simp at h
  · simp at h
def q3_Same.f (a b : List Int) : Option Bool := if a.length ≤ 9223372036854775806 then some (decide (a = b)) else none
theorem q3_Same.calls (A0 : Option Addr) (c0 : Nat) (l0 : List Int) (A1 : Option Addr) (c1 : Nat) (l1 : List Int) (r : Bool) (w : World) (hr0 : Kd.C (Kd.int .i64) w A0 l0.length l0) (hc0 : l0.length ≤ c0) (hr1 : Kd.C (Kd.int .i64) w A1 l1.length l1) (hc1 : l1.length ≤ c1) (h : q3_Same.f l0 l1 = some r) :
    Calls Try.prog 27 #[.slice A0 l0.length c0, .slice A1 l1.length c1] w fun e w' => e = .returned (.bool r) ∧ Drawn0 w w' := by
  unfold q3_Same.f at h
  split at h
  · rename_i hm
    exact PR3.catamaranref03_SameInts.calls (l0.length + 1) A0 c0 l0 A1 c1 l1 r w hr0 hc0 hr1 hc1 (by rw [Same_tells l0 l1 hm _ (by omega)]; exact h)
  · simp at h
end Go.Proofs.Ytpbnppeodoflcaa.E

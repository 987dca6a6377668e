/- bits.Of: the set of a list of tracks. -/
import Derived.Test.YtpbnppeodoflcaaE13
import Derived.Lib.SliceRun
namespace Go.Proofs.Ytpbnppeodoflcaa.E
open Go.RowKit Go.Proofs.YtpbnppeodoflcaaW.PrintWords Go.Proofs.YtpbnppeodoflcaaW.PrintLast Go.Proofs.YtpbnppeodoflcaaW.PrintMore Go.Proofs.Ytpbnppeodoflcaa.K
set_option linter.unusedVariables false
set_option linter.unusedSimpArgs false

def outB (n t : Int) : Bool := decide (t < 0) || decide (t ≥ n)
set_option maxHeartbeats 800000 in
set_option maxRecDepth 100000 in
theorem of_test (n t : Int) (b : Nat) (w : World) (hc : w.cell? ⟨b, 0, none⟩ = some (.int .i64 n)) : Calls Try.prog 101 #[.int .i64 t, .pointer (some ⟨b, 0, none⟩)] w fun e w' => e = .returned (.bool (outB n t)) ∧ Drawn0 w w' := by
  unfold outB
  by_cases h : t < 0
  · have h1 : decide (t < 0) = true := decide_eq_true h
    go_enter Try.func101, Try.ntmps101
    go_wp2
    go_ret
    exact ⟨by simp [h], Drawn0.refl _⟩
  · have h1 : decide (t < 0) = false := decide_eq_false h
    go_enter Try.func101, Try.ntmps101
    go_wp2
    go_ret
    exact ⟨by simp [h], Drawn0.refl _⟩
set_option maxHeartbeats 8000000 in
set_option maxRecDepth 100000 in
theorem index_of (n : Int) (A1 : Option Addr) (c1 : Nat) (l1 : List Int) (b : Nat) (w : World) (hr1 : Kd.C (Kd.int .i64) w A1 l1.length l1) (hc1 : l1.length ≤ c1) (hm : l1.length ≤ 1000) (hc : w.cell? ⟨b, 0, none⟩ = some (.int .i64 n)) :
    Calls Try.prog 159 #[.slice A1 l1.length c1, .func (.func 101) #[] #[.pointer (some ⟨b, 0, none⟩)]] w fun e w' => ∃ r : Int, e = .returned (.int .i64 r) ∧ decide (r ≥ 0) = l1.any (outB n) ∧ Drawn0 w w' := by
  have HR1 := Aside0.mk hr1
  have HC1 := Aside0.mk hc1
  have HC := Aside0.mk hc
  clear hr1 hc1 hc
  go_enter Try.func159, Try.ntmps159
  go_wp2
  go_loopg [8] (l1.length + 1) (fun kq v8 w' => ∃ (x : Int), v8 = .int .i64 x ∧ Aside0 (0 ≤ x ∧ x + kq = l1.length + 1) ∧ Aside0 ((l1.take x.toNat).any (outB n) = false) ∧ Drawn0 w w')
  case atStart => exact ⟨0, rfl, ⟨by omega⟩, ⟨by simp⟩, Drawn0.refl _⟩
  case round =>
    obtain ⟨x, rfl, HX, HA, ⟨m1, rfl⟩⟩ := hrel
    have HCm : Aside0 ((w.drewN m1).cell? ⟨b, 0, none⟩ = some (.int .i64 n)) := ⟨by simpa using HC.out⟩
    by_cases h1 : x < (l1.length : Int)
    · have c1 : decide (x < (l1.length : Int)) = true := decide_eq_true h1
      have c2 : decide (0 ≤ x) = true := decide_eq_true HX.out.1
      obtain ⟨ad, e, hx⟩ := Kd.at_int HR1.out x HX.out.1 h1
      cases e
      have HL : Aside0 (l1.take (x + 1).toNat = l1.take x.toNat ++ [rd l1 x]) := ⟨by
        obtain ⟨i, rfl⟩ := Int.eq_ofNat_of_zero_le HX.out.1
        rw [show ((i : Int) + 1).toNat = i + 1 from by omega, Int.toNat_natCast, List.take_add_one]
        unfold rd
        rw [Int.toNat_natCast, List.getD_eq_getElem?_getD, List.getElem?_eq_getElem (by omega)]
        rfl⟩
      have HW : Aside0 (wrap64 (x + 1) = x + 1) := ⟨wrap64_id (by have := HX.out; omega) (by have := HX.out; omega)⟩
      have p1 := eq_true HX.out.1
      have q1 := eq_true h1
      clear h1
      cases ht : outB n (rd l1 x) with
      | true =>
        go_wp2_with (first | (go_at_call 101; refine (of_test n _ b _ HCm.out).mono ?_; rw [ht]; rintro e w2 ⟨rfl, ⟨nd, rfl⟩⟩))
        go_ret
        exact ⟨x, rfl, by
          rw [decide_eq_true (show x ≥ 0 from HX.out.1)]
          symm
          rw [List.any_eq_true]
          refine ⟨rd l1 x, ?_, ht⟩
          have : rd l1 x ∈ l1.take (x + 1).toNat := by rw [HL.out]; simp
          exact List.mem_of_mem_take this, by repeat (first | exact Drawn0.refl _ | apply Drawn0.step)⟩
      | false =>
        go_wp2_with (first | (go_at_call 101; refine (of_test n _ b _ HCm.out).mono ?_; rw [ht]; rintro e w2 ⟨rfl, ⟨nd, rfl⟩⟩))
        go_roundg (gk - 1)
        case measure => have := HX.out.2; have := of_eq_true q1; omega
        case rel => exact ⟨wrap64 (x + 1), (by first | rfl | (simp; done) | (simp [*]; done)), ⟨by rw [HW.out]; have := HX.out; have := of_eq_true q1; omega⟩, ⟨by rw [HW.out, HL.out]; simp [HA.out, ht]⟩, by repeat (first | exact Drawn0.refl _ | apply Drawn0.step)⟩
    · have c1 : decide (x < (l1.length : Int)) = false := decide_eq_false h1
      go_wp2
      go_ret
      exact ⟨-1, rfl, by
        rw [decide_eq_false (by omega)]
        symm
        rw [List.take_of_length_le (by omega)] at HA
        exact HA.out, by repeat (first | exact Drawn0.refl _ | apply Drawn0.step)⟩
set_option maxHeartbeats 800000 in
set_option maxRecDepth 100000 in
theorem contains_of (n : Int) (A1 : Option Addr) (c1 : Nat) (l1 : List Int) (b : Nat) (w : World) (hr1 : Kd.C (Kd.int .i64) w A1 l1.length l1) (hc1 : l1.length ≤ c1) (hm : l1.length ≤ 1000) (hc : w.cell? ⟨b, 0, none⟩ = some (.int .i64 n)) :
    Calls Try.prog 100 #[.slice A1 l1.length c1, .func (.func 101) #[] #[.pointer (some ⟨b, 0, none⟩)]] w fun e w' => e = .returned (.bool (l1.any (outB n))) ∧ Drawn0 w w' := by
  have HI := Aside0.mk (index_of n A1 c1 l1 b w hr1 hc1 hm hc)
  clear hr1 hc1 hc
  go_enter Try.func100, Try.ntmps100
  go_wp2_with (first | (go_at_call 159; refine (HI.out).mono ?_; rintro e w2 ⟨r, rfl, hr, ⟨nd, rfl⟩⟩))
  go_ret
  exact ⟨by first | (rw [← hr]; done) | (simp [← hr]; done), by repeat (first | exact Drawn0.refl _ | apply Drawn0.step)⟩
end Go.Proofs.Ytpbnppeodoflcaa.E

/- The reference's sets of tracks (layer 3), told plainly. -/
import Derived.Test.YtpbnppeodoflcaaE6
import Derived.Test.YtpbnppeodoflcaaPR3x
namespace Go.Proofs.Ytpbnppeodoflcaa.E
open Go.RowKit Go.Proofs.YtpbnppeodoflcaaW.PrintWords Go.Proofs.YtpbnppeodoflcaaW.PrintLast Go.Proofs.YtpbnppeodoflcaaW.PrintMore Go.Proofs.Ytpbnppeodoflcaa.K
set_option linter.unusedVariables false
set_option linter.unusedSimpArgs false

theorem wrap64_id {x : Int} (h0 : -9223372036854775808 ≤ x) (h1 : x ≤ 9223372036854775807) : wrap64 x = x := by unfold wrap64; omega
theorem rd_nonneg {l : List Int} (h : okB l = true) (i : Int) : 0 ≤ rd l i ∧ rd l i < 256 := by
  unfold rd
  rw [List.getD_eq_getElem?_getD]
  by_cases hi : i.toNat < l.length
  · rw [List.getElem?_eq_getElem hi]; exact okB_mem h _ (List.getElem_mem hi)
  · rw [List.getElem?_eq_none (by omega)]; exact ⟨Int.le_refl _, by decide⟩
/-- Bit j of a byte. -/
def bitB (c : Int) (j : Nat) : Bool := c.toNat / 2 ^ j % 2 == 1
/-- Has a set a track. -/
def inS (s : List Int) (t : Int) : Bool := decide (0 ≤ t) && decide (t / 8 < s.length) && bitB (rd s (t / 8)) (t % 8).toNat
theorem power_tells : ∀ x : Nat, x < 8 → ∀ k, PR3.catamaranref03_power.f (k + 9) x = some (2 ^ x) := by
  intro x hx k
  have h : PR3.catamaranref03_power.f 9 x = some (2 ^ x) := by
    revert x
    decide +kernel
  exact at_rounds (fun k => PR3.catamaranref03_power.mono x k) (by omega) h
theorem In_tells (s : List Int) (hs : okB s = true) (t : Int) (h0 : -9223372036854775808 ≤ t) (h1 : t ≤ 9223372036854775807) (k : Nat) : PR3.catamaranref03_In.f (k + 9) s t = some (inS s t) := by
  unfold PR3.catamaranref03_In.f inS
  by_cases ht : 0 ≤ t
  · rw [if_pos (by omega)]
    have e1 : t.tdiv 8 = t / 8 := Int.tdiv_eq_ediv_of_nonneg ht
    have e2 : t.tmod 8 = t % 8 := Int.tmod_eq_emod_of_nonneg ht
    have e3 : wrap64 (t.tdiv 8) = t / 8 := by rw [e1]; exact wrap64_id (by omega) (by omega)
    rw [e3, e2]
    by_cases hl : t / 8 < s.length
    · rw [if_pos hl, if_pos (by omega)]
      obtain ⟨j, hj⟩ : ∃ j : Nat, t % 8 = j := Int.eq_ofNat_of_zero_le (by omega)
      have hr := rd_nonneg hs (t / 8)
      rw [hj, power_tells j (by omega) k]
      simp only [Option.bind_some]
      rw [if_neg (by have : (0 : Int) < 2 ^ j := Int.pow_pos (by decide); omega)]
      simp only [ht, hl, decide_true, Bool.true_and, Int.toNat_natCast]
      congr 1
      generalize rd s (t / 8) = c at *
      obtain ⟨c, rfl⟩ := Int.eq_ofNat_of_zero_le hr.1
      have hc : c < 256 := by omega
      have hj8 : j < 8 := by omega
      clear hj hs e1 e2 e3 hr h0 h1 ht hl
      revert hc
      revert c
      have key : ∀ j : Nat, j < 8 → ∀ c : Nat, c < 256 → (Int.tmod (wrap64 (Int.tdiv (wrap64 (c : Int)) (2 ^ j))) 2 == 1) = bitB (c : Int) j := by decide +kernel
      exact key j hj8
    · rw [if_neg hl]
      simp [hl]
  · rw [if_neg (by omega)]
    simp [ht]
/-- How many pages. -/
theorem pages_tells {n : Int} (h0 : 1 ≤ n) (h1 : n ≤ 16) : wrap64 (Int.tdiv (wrap64 (wrap64 (n + 8) - 1)) 8) = (n + 7) / 8 := by
  have e1 : wrap64 (n + 8) = n + 8 := wrap64_id (by omega) (by omega)
  have e2 : wrap64 (n + 8 - 1) = n + 7 := by rw [wrap64_id (by omega) (by omega)]; omega
  have e3 : (n + 7).tdiv 8 = (n + 7) / 8 := Int.tdiv_eq_ediv_of_nonneg (by omega)
  rw [e1, e2, e3]
  exact wrap64_id (by omega) (by omega)
theorem May_loop (s : List Int) (hs : okB s = true) (hl : s.length ≤ 2) (d : Nat) : ∀ (k : Nat) (t : Nat), t ≤ 8 * s.length → 8 * s.length - t = d →
    PR3.catamaranref03_May.l0 (k + 10 + d) s (t : Int) = some ((List.range' t (8 * s.length - t)).all fun t => !inS s (t : Int)) := by
  induction d with
  | zero =>
    intro k t h0 hd
    have e : (8 * (s.length : Int)) = ((8 * s.length : Nat) : Int) := by omega
    rw [show k + 10 + 0 = (k + 9) + 1 from rfl]
    simp only [PR3.catamaranref03_May.l0]
    rw [wrap64_id (x := 8 * (s.length : Int)) (by omega) (by omega), if_neg (by omega), hd]
    rfl
  | succ d ih =>
    intro k t h0 hd
    rw [show k + 10 + (d + 1) = (k + 10 + d) + 1 from rfl]
    simp only [PR3.catamaranref03_May.l0]
    rw [wrap64_id (x := 8 * (s.length : Int)) (by omega) (by omega), if_pos (by omega), show k + 10 + d = (k + 1 + d) + 9 from by omega, In_tells s hs t (by omega) (by omega), show (k + 1 + d) + 9 = k + 10 + d from by omega]
    simp only [Option.bind_some]
    rw [show 8 * s.length - t = (8 * s.length - (t + 1)) + 1 from by omega, List.range'_succ, List.all_cons]
    cases hI : inS s (t : Int) with
    | true => rfl
    | false =>
      rw [if_neg (by simp), wrap64_id (x := (t : Int) + 1) (by omega) (by omega), show ((t : Int) + 1) = ((t + 1 : Nat) : Int) from by omega, ih k (t + 1) (by omega) (by omega)]
      rfl
/-- May it be a set of n tracks. -/
def mayS (n : Int) (s : List Int) : Bool := decide (1 ≤ n) && decide (n ≤ 16) && decide ((s.length : Int) = (n + 7) / 8) && (List.range' n.toNat (8 * s.length - n.toNat)).all fun t => !inS s (t : Int)
theorem May_tells (n : Int) (s : List Int) (hs : okB s = true) (k : Nat) : PR3.catamaranref03_May.f (k + 40) n s = some (mayS n s) := by
  unfold PR3.catamaranref03_May.f PR3.catamaranref03_Size.f mayS
  by_cases h0 : 1 ≤ n
  · rw [if_pos (by omega)]
    simp only [Option.bind_some]
    by_cases h1 : n ≤ 16
    · rw [if_pos (by simpa using h1), pages_tells h0 h1]
      rw [show k + 40 = (k + 39) + 1 from rfl]
      simp only [PR3.catamaranref03_May.j0]
      by_cases hl : (s.length : Int) = (n + 7) / 8
      · rw [if_neg (by simpa using hl)]
        obtain ⟨m, rfl⟩ := Int.eq_ofNat_of_zero_le (show 0 ≤ n by omega)
        have hd : 8 * s.length - m ≤ 16 := by omega
        have := May_loop s hs (by omega) (8 * s.length - m) (k + 29 - (8 * s.length - m)) m (by omega) rfl
        rw [show k + 29 - (8 * s.length - m) + 10 + (8 * s.length - m) = k + 39 from by omega] at this
        rw [this]
        simp [h0, h1, hl]
      · rw [if_pos (by simpa using hl)]
        simp [hl]
    · rw [if_neg (by simpa using h1), show k + 40 = (k + 39) + 1 from rfl]
      simp only [PR3.catamaranref03_May.j0]
      simp [h1]
  · rw [if_neg (by omega)]
    simp only [Option.bind_some]
    rw [if_neg (by simp), show k + 40 = (k + 39) + 1 from rfl]
    simp only [PR3.catamaranref03_May.j0]
    simp [h0]
end Go.Proofs.Ytpbnppeodoflcaa.E

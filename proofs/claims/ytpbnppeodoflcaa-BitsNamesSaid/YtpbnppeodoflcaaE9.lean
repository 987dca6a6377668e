/- What the reference's functions on sets come to, in the program's words. -/
import Derived.Test.YtpbnppeodoflcaaE8
import Derived.Test.YtpbnppeodoflcaaPCtx
namespace Go.Proofs.Ytpbnppeodoflcaa.E
open Go.RowKit Go.Proofs.YtpbnppeodoflcaaW.PrintWords Go.Proofs.YtpbnppeodoflcaaW.PrintLast Go.Proofs.YtpbnppeodoflcaaW.PrintMore Go.Proofs.Ytpbnppeodoflcaa.K
set_option linter.unusedVariables false
set_option linter.unusedSimpArgs false

theorem Check_tells (n : Int) (s : List Int) (hs : okB s = true) (k : Nat) : PR3.catamaranref03_Check.f (k + 40) n s = some (ckS n s) := by
  unfold PR3.catamaranref03_Check.f PR3.catamaranref03_Size.f
  rw [ckS_may n s hs]
  by_cases h0 : 1 ≤ n
  · rw [if_pos (show n ≥ 1 from h0)]
    simp only [Option.bind_some]
    by_cases h1 : n ≤ 16
    · rw [if_pos (by simpa using h1), May_tells n s hs k, if_pos ⟨h0, h1⟩]
      simp only [Option.bind_some]
      split <;> rfl
    · rw [if_neg (by simpa using h1), if_neg (by omega)]
  · rw [if_neg (show ¬ n ≥ 1 from h0), if_neg (by omega)]
    rfl
theorem ckS_zero {n : Int} {s : List Int} (hs : okB s = true) (h : ckS n s = 0) : 1 ≤ n ∧ n ≤ 16 ∧ (s.length : Int) = (n + 7) / 8 ∧ ∀ t : Nat, n ≤ t → inS s (t : Int) = false := by
  rw [ckS_may n s hs] at h
  split at h
  · rename_i hn
    split at h
    · rename_i hm
      obtain ⟨m, rfl⟩ := Int.eq_ofNat_of_zero_le (show 0 ≤ n by omega)
      unfold mayS at hm
      simp only [Bool.and_eq_true, decide_eq_true_eq, List.all_eq_true, Bool.not_eq_true', Int.toNat_natCast] at hm
      refine ⟨hn.1, hn.2, hm.1.2, fun t ht => ?_⟩
      by_cases h8 : t < 8 * s.length
      · exact hm.2 t (by simp; omega)
      · unfold inS
        rw [decide_eq_false (show ¬ (t : Int) / 8 < (s.length : Int) by omega)]
        simp
    · simp at h
  · simp at h
/-- A set's tracks are those below n that it has. -/
theorem trk_of {n : Nat} {s : List Int} (hs : okB s = true) (h : ckS n s = 0) : trk 0 s = ((List.range n).filter fun (t : Nat) => inS s (t : Int)).map (fun (t : Nat) => (t : Int)) := by
  obtain ⟨h0, h1, hl, hb⟩ := ckS_zero hs h
  rw [trk_filter]
  have hr : List.range (8 * s.length) = List.range n ++ (List.range (8 * s.length - n)).map (n + ·) := by
    rw [← List.range_add]; congr 1; omega
  rw [hr, List.filter_append, show ((List.range (8 * s.length - n)).map (n + ·)).filter (fun (t : Nat) => inS s (t : Int)) = [] from by
    rw [List.filter_eq_nil_iff]
    intro t ht
    obtain ⟨j, _, rfl⟩ := List.mem_map.1 ht
    rw [hb _ (by omega)]
    simp, List.append_nil]
  simp
theorem Tracks_loop (n : Nat) (s : List Int) (hs : okB s = true) (hn : n ≤ 16) (d : Nat) : ∀ (k : Nat) (t : Nat) (acc : List Int), t ≤ n → n - t = d → acc.length ≤ t →
    PR3.catamaranref03_Tracks.l0 (k + 10 + d) (n : Int) s acc (t : Int) = some (acc ++ ((List.range' t (n - t)).filter fun (t : Nat) => inS s (t : Int)).map (fun (t : Nat) => (t : Int))) := by
  induction d with
  | zero =>
    intro k t acc h0 hd ha
    rw [show k + 10 + 0 = (k + 9) + 1 from rfl]
    simp only [PR3.catamaranref03_Tracks.l0]
    rw [if_neg (by omega), hd]
    simp
  | succ d ih =>
    intro k t acc h0 hd ha
    rw [show k + 10 + (d + 1) = (k + 10 + d) + 1 from rfl]
    simp only [PR3.catamaranref03_Tracks.l0]
    rw [if_pos (by omega), show k + 10 + d = (k + 1 + d) + 9 from by omega, In_tells s hs t (by omega) (by omega), show (k + 1 + d) + 9 = k + 10 + d from by omega]
    simp only [Option.bind_some]
    have hw : wrap64 ((t : Int) + 1) = ((t + 1 : Nat) : Int) := by rw [wrap64_id (by omega) (by omega)]; omega
    rw [show n - t = (n - (t + 1)) + 1 from by omega, List.range'_succ, hw]
    cases hI : inS s (t : Int) with
    | true =>
      rw [if_pos rfl, if_pos (by omega), ih k (t + 1) _ (by omega) (by omega) (by simp; omega), List.filter_cons_of_pos (by simpa using hI)]
      simp
    | false =>
      rw [if_neg (by simp), ih k (t + 1) _ (by omega) (by omega) (by omega), List.filter_cons_of_neg (by simp [hI])]
theorem List_tells (n : Int) (s : List Int) (hs : okB s = true) (k : Nat) : PR3.catamaranref03_List.f (k + 40) n s = some (if ckS n s = 0 then (trk 0 s, 0) else ([], ckS n s)) := by
  unfold PR3.catamaranref03_List.f
  rw [Check_tells n s hs k]
  simp only [Option.bind_some]
  by_cases h : ckS n s = 0
  · rw [if_pos h, if_pos h]
    obtain ⟨h0, h1, _⟩ := ckS_zero hs h
    obtain ⟨m, rfl⟩ := Int.eq_ofNat_of_zero_le (show 0 ≤ n by omega)
    unfold PR3.catamaranref03_Tracks.f
    have := Tracks_loop m s hs (by omega) m (k + 30 - m) 0 [] (by omega) (by omega) (by simp)
    rw [show k + 30 - m + 10 + m = k + 40 from by omega] at this
    rw [show ((0 : Nat) : Int) = 0 from rfl] at this
    rw [this, trk_of hs h, List.range_eq_range']
    simp
  · rw [if_neg h, if_neg h]
theorem Count_tells (n : Int) (s : List Int) (hs : okB s = true) (k : Nat) : PR3.catamaranref03_Count.f (k + 40) n s = some (if ckS n s = 0 then (((trk 0 s).length : Int), 0) else (0, ckS n s)) := by
  unfold PR3.catamaranref03_Count.f
  rw [List_tells n s hs k]
  split <;> rfl
/-- Has a set a track, or the error. -/
def hasS (n : Int) (s : List Int) (t : Int) : Bool × Int := if ckS n s = 0 then (if t < 0 ∨ t ≥ n then (false, 2) else (inS s t, 0)) else (false, ckS n s)
theorem Has_tells (n : Int) (s : List Int) (hs : okB s = true) (t : Int) (h0 : -9223372036854775808 ≤ t) (h1 : t ≤ 9223372036854775807) (k : Nat) : PR3.catamaranref03_Has.f (k + 40) n s t = some (hasS n s t) := by
  unfold PR3.catamaranref03_Has.f hasS
  rw [Check_tells n s hs k]
  simp only [Option.bind_some]
  have hI := In_tells s hs t h0 h1 (k + 30)
  rw [show k + 30 + 9 = k + 39 from rfl] at hI
  by_cases h : ckS n s = 0
  · rw [if_pos h, if_pos h]
    by_cases ht : t < 0
    · rw [if_pos ht, show k + 40 = (k + 39) + 1 from rfl]
      simp only [PR3.catamaranref03_Has.j0]
      rw [if_pos trivial, if_pos (.inl ht)]
    · rw [if_neg ht, show k + 40 = (k + 39) + 1 from rfl]
      simp only [PR3.catamaranref03_Has.j0]
      by_cases h2 : t ≥ n
      · rw [if_pos (by simpa using h2), if_pos (.inr h2)]
      · rw [if_neg (by simpa using h2), if_pos h, hI, if_neg (show ¬ (t < 0 ∨ t ≥ n) by omega)]
        rfl
  · rw [if_neg h, if_neg h, show k + 40 = (k + 39) + 1 from rfl]
    simp only [PR3.catamaranref03_Has.j0]
    rw [if_neg (by simp), if_neg h]
theorem bit_tells : ∀ j : Nat, j < 8 → ∀ c : Nat, c < 256 → (Go.bits .and .u8 (c : Int) (shl .u8 1 (j : Int)) != 0) = bitB (c : Int) j := by decide +kernel
theorem has_tells (n : Int) (s : List Int) (hs : okB s = true) (t : Int) : PHs.bits_Has.f n s t = some (hasS n s t) := by
  unfold PHs.bits_Has.f hasS bits_Check.f
  simp only [Option.bind_some]
  by_cases h : ckS n s = 0
  · rw [if_pos h, if_pos h]
    obtain ⟨h0, h1, hl, _⟩ := ckS_zero hs h
    by_cases ht : t < 0
    · rw [if_pos ht, if_pos (.inl ht)]
    · rw [if_neg ht]
      by_cases h2 : t ≥ n
      · rw [if_pos h2, if_pos (.inr h2)]
      · rw [if_neg h2, if_neg (show ¬ (t < 0 ∨ t ≥ n) by omega)]
        have e1 : wrap64 (t.tdiv 8) = t / 8 := by rw [Int.tdiv_eq_ediv_of_nonneg (by omega)]; exact wrap64_id (by omega) (by omega)
        have e2 : t.tmod 8 = t % 8 := Int.tmod_eq_emod_of_nonneg (by omega)
        rw [e1, if_pos (by omega), if_pos (by omega)]
        unfold PHs.bits_bit.f
        rw [e2, if_pos (by omega)]
        simp only [Option.bind_some]
        unfold inS
        rw [decide_eq_true (show 0 ≤ t by omega), decide_eq_true (show t / 8 < (s.length : Int) by omega)]
        have hr := rd_nonneg hs (t / 8)
        obtain ⟨c, hc⟩ := Int.eq_ofNat_of_zero_le hr.1
        obtain ⟨j, hj⟩ := Int.eq_ofNat_of_zero_le (show 0 ≤ t % 8 by omega)
        have := bit_tells j (by omega) c (by omega)
        rw [hc, hj, this]
        simp
  · rw [if_neg h, if_neg h]
theorem ones_tells : ∀ c : Nat, c < 256 → PCt.bits_OnesCount8.f (c : Int) = some ((bl c).length : Int) := by decide +kernel
end Go.Proofs.Ytpbnppeodoflcaa.E

/- Sets of tracks: the program's words and the reference's are the same. -/
import Derived.Test.YtpbnppeodoflcaaE7
namespace Go.Proofs.Ytpbnppeodoflcaa.E
open Go.RowKit Go.Proofs.YtpbnppeodoflcaaW.PrintWords Go.Proofs.YtpbnppeodoflcaaW.PrintLast Go.Proofs.YtpbnppeodoflcaaW.PrintMore Go.Proofs.Ytpbnppeodoflcaa.K
set_option linter.unusedVariables false
set_option linter.unusedSimpArgs false

theorem inS_low (c : Int) (s : List Int) (j : Nat) (hj : j < 8) : inS (c :: s) (j : Int) = bitB c j := by
  unfold inS
  have e1 : (j : Int) / 8 = 0 := by omega
  have e2 : ((j : Int) % 8).toNat = j := by omega
  rw [e1, e2]
  have h0 : (0 : Int) ≤ (j : Int) := by omega
  have h1 : (0 : Int) < ((c :: s).length : Int) := by simp only [List.length_cons]; omega
  rw [decide_eq_true h0, decide_eq_true h1]
  rfl
theorem inS_high (c : Int) (s : List Int) (t : Int) (ht : 8 ≤ t) : inS (c :: s) t = inS s (t - 8) := by
  unfold inS
  have e1 : t / 8 = (t - 8) / 8 + 1 := by omega
  have e2 : t % 8 = (t - 8) % 8 := by omega
  rw [e2]
  have h0 : decide (0 ≤ t) = decide (0 ≤ t - 8) := by rw [decide_eq_true (show 0 ≤ t by omega), decide_eq_true (show 0 ≤ t - 8 by omega)]
  have h1 : decide (t / 8 < ((c :: s).length : Int)) = decide ((t - 8) / 8 < (s.length : Int)) := by
    rw [e1]
    simp only [List.length_cons]
    by_cases h : (t - 8) / 8 < (s.length : Int)
    · rw [decide_eq_true h, decide_eq_true (by omega)]
    · rw [decide_eq_false h, decide_eq_false (by omega)]
  have h2 : rd (c :: s) (t / 8) = rd s ((t - 8) / 8) := by
    unfold rd
    rw [e1, show ((t - 8) / 8 + 1).toNat = ((t - 8) / 8).toNat + 1 from by omega, List.getD_cons_succ]
  rw [h0, h1, h2]
theorem bl_eq (c : Int) : bl c = ((List.range 8).filter (fun (j : Nat) => bitB c j)).map (fun (j : Nat) => (j : Int)) := rfl
theorem trk_filter (s : List Int) : ∀ o, trk o s = ((List.range (8 * s.length)).filter fun (t : Nat) => inS s (t : Int)).map (fun (t : Nat) => o + (t : Int)) := by
  induction s with
  | nil => intro o; simp [trk]
  | cons c s ih =>
    intro o
    have hr : List.range (8 * (c :: s).length) = List.range 8 ++ (List.range (8 * s.length)).map (8 + ·) := by
      rw [List.length_cons, show 8 * (s.length + 1) = 8 + 8 * s.length from by omega, List.range_add]
    have h1 : (List.range 8).filter (fun (t : Nat) => inS (c :: s) (t : Int)) = (List.range 8).filter (fun (j : Nat) => bitB c j) :=
      List.filter_congr fun j hj => inS_low c s j (List.mem_range.1 hj)
    have h2 : ((List.range (8 * s.length)).map (8 + ·)).filter (fun (t : Nat) => inS (c :: s) (t : Int)) = ((List.range (8 * s.length)).filter fun (t : Nat) => inS s (t : Int)).map (8 + ·) := by
      rw [List.filter_map]
      congr 1
      refine List.filter_congr fun j _ => ?_
      have := inS_high c s ((8 + j : Nat) : Int) (by omega)
      simp only [Function.comp]
      rw [this]
      congr 1
      omega
    rw [hr, List.filter_append, h1, h2, List.map_append, trk, bl_eq, ih (o + 8)]
    congr 1
    · simp [List.map_map, Function.comp]
    · simp only [List.map_map]
      refine List.map_congr_left fun j _ => ?_
      simp only [Function.comp]
      omega
theorem mask_tells : ∀ m : Nat, m < 9 → ∀ c : Nat, c < 256 → (Go.bits .andNot .u8 (c : Int) (2 ^ m - 1) == 0) = (List.range' m (8 - m)).all fun j => !bitB c j := by decide +kernel
theorem all_congr {l : List Nat} {p q : Nat → Bool} (h : ∀ x ∈ l, p x = q x) : l.all p = l.all q := by
  induction l with
  | nil => rfl
  | cons a l ih => rw [List.all_cons, List.all_cons, h a (by simp), ih (fun x hx => h x (by simp [hx]))]
theorem okS_one (m c : Int) : okS [m] [c] = (Go.bits .andNot .u8 c m == 0) := by
  unfold okS
  rw [show ([c] : List Int).length = 1 from rfl, show List.range 1 = [0] from rfl, List.all_cons, List.all_nil, Bool.and_true]
  rfl
theorem okS_two (a b c d : Int) : okS [a, b] [c, d] = ((Go.bits .andNot .u8 c a == 0) && (Go.bits .andNot .u8 d b == 0)) := by
  unfold okS
  rw [show ([c, d] : List Int).length = 2 from rfl, show List.range 2 = [0, 1] from rfl, List.all_cons, List.all_cons, List.all_nil, Bool.and_true]
  rfl
theorem okS_len (a s : List Int) (h : s.length ≠ a.length) : okS a s = false := by
  unfold okS
  rw [show (s.length == a.length) = false from by simpa using h]
  rfl
theorem mayS_len (n : Int) (s : List Int) (h : ¬ (s.length : Int) = (n + 7) / 8) : mayS n s = false := by
  unfold mayS
  rw [decide_eq_false h]
  simp
theorem mayS_all (m : Nat) (s : List Int) (h0 : 1 ≤ m) (h1 : m ≤ 16) (h : (s.length : Int) = ((m : Int) + 7) / 8) : mayS m s = (List.range' m (8 * s.length - m)).all fun (t : Nat) => !inS s (t : Int) := by
  unfold mayS
  rw [decide_eq_true h, decide_eq_true (show (1 : Int) ≤ m by omega), decide_eq_true (show (m : Int) ≤ 16 by omega), Int.toNat_natCast]
  rfl
theorem may_one (m c : Nat) (h0 : 1 ≤ m) (h8 : m ≤ 8) (hc : c < 256) : mayS m [(c : Int)] = (Go.bits .andNot .u8 (c : Int) (2 ^ m - 1) == 0) := by
  rw [mayS_all m _ h0 (by omega) (by simp only [List.length_cons, List.length_nil]; omega), mask_tells m (by omega) c hc]
  refine all_congr fun j hj => ?_
  rw [inS_low _ _ j (by simp at hj; omega)]
theorem may_two (m c d : Nat) (h0 : 9 ≤ m) (h8 : m ≤ 16) (hc : c < 256) (hd : d < 256) : mayS m [(c : Int), (d : Int)] = (Go.bits .andNot .u8 (d : Int) (2 ^ (m - 8) - 1) == 0) := by
  rw [mayS_all m _ (by omega) (by omega) (by simp only [List.length_cons, List.length_nil]; omega), mask_tells (m - 8) (by omega) d hd]
  obtain ⟨q, rfl⟩ : ∃ q, m = 8 + q := ⟨m - 8, by omega⟩
  rw [show ([(c : Int), (d : Int)] : List Int).length = 2 from rfl, show 8 * 2 - (8 + q) = 8 - q from by omega, show 8 + q - 8 = q from by omega, ← List.map_add_range', List.all_map]
  refine all_congr fun j hj => ?_
  simp only [Function.comp]
  rw [inS_high _ _ _ (by omega), show ((8 + j : Nat) : Int) - 8 = (j : Int) from by omega, inS_low _ _ j (by simp at hj; omega)]
theorem ok_may (n : Int) (s : List Int) (hs : okB s = true) (h0 : 1 ≤ n) (h1 : n ≤ 16) : okS (allB n) s = mayS n s := by
  obtain ⟨m, rfl⟩ := Int.eq_ofNat_of_zero_le (show 0 ≤ n by omega)
  by_cases h8 : (m : Int) ≤ 8
  · have ha : allB (m : Int) = [2 ^ m - 1] := by unfold allB; rw [if_pos h8, Int.toNat_natCast]
    rw [ha]
    rcases s with _ | ⟨c, _ | ⟨d, s⟩⟩
    · rw [okS_len _ _ (by simp), mayS_len _ _ (by simp only [List.length_nil]; omega)]
    · have hc := okB_mem hs c (by simp)
      obtain ⟨c, rfl⟩ := Int.eq_ofNat_of_zero_le hc.1
      rw [okS_one, may_one m c (by omega) (by omega) (by omega)]
    · rw [okS_len _ _ (by simp), mayS_len _ _ (by simp only [List.length_cons]; omega)]
  · have ha : allB (m : Int) = [255, 2 ^ (m - 8) - 1] := by unfold allB; rw [if_neg h8, show ((m : Int) - 8).toNat = m - 8 from by omega]
    rw [ha]
    rcases s with _ | ⟨c, _ | ⟨d, _ | ⟨e, s⟩⟩⟩
    · rw [okS_len _ _ (by simp), mayS_len _ _ (by simp only [List.length_nil]; omega)]
    · rw [okS_len _ _ (by simp), mayS_len _ _ (by simp only [List.length_cons, List.length_nil]; omega)]
    · have hc := okB_mem hs c (by simp)
      have hd := okB_mem hs d (by simp)
      obtain ⟨c, rfl⟩ := Int.eq_ofNat_of_zero_le hc.1
      obtain ⟨d, rfl⟩ := Int.eq_ofNat_of_zero_le hd.1
      have h255 := mask_tells 8 (by omega) c (by omega)
      rw [show ((2 : Int) ^ 8 - 1) = 255 from rfl, show List.range' 8 (8 - 8) = [] from rfl, List.all_nil] at h255
      rw [okS_two, may_two m c d (by omega) (by omega) (by omega) (by omega), h255, Bool.true_and]
    · rw [okS_len _ _ (by simp), mayS_len _ _ (by simp only [List.length_cons]; omega)]
theorem ckS_may (n : Int) (s : List Int) (hs : okB s = true) : ckS n s = if 1 ≤ n ∧ n ≤ 16 then (if mayS n s = true then 0 else 8) else 2 := by
  unfold ckS
  split
  · rename_i h
    rw [ok_may n s hs h.1 h.2]
  · rfl
end Go.Proofs.Ytpbnppeodoflcaa.E

/- The plain law of BitsBack. -/
import Derived.Test.YtpbnppeodoflcaaE16
import Derived.Test.YtpbnppeodoflcaaPBitsBackx
namespace Go.Proofs.Ytpbnppeodoflcaa.Pure
open Go.RowKit Go.Proofs.Ytpbnppeodoflcaa.PBitsBack Go.Proofs.Ytpbnppeodoflcaa.E Go.Proofs.YtpbnppeodoflcaaW.PrintWords Go.Proofs.YtpbnppeodoflcaaW.PrintLast
set_option linter.unusedVariables false

theorem back_alive : catamaranlaw03_alive.f = some true := by decide +kernel
theorem drop_rd {l : List Int} {j : Nat} (h : j < l.length) : l.drop j = rd l (j : Int) :: l.drop (j + 1) := by
  rw [List.drop_eq_getElem_cons h]
  unfold rd
  rw [Int.toNat_natCast, List.getD_eq_getElem?_getD, List.getElem?_eq_getElem h]
  rfl
theorem rd_mem {l : List Int} {j : Nat} (h : j < l.length) : rd l (j : Int) ∈ l := by
  have := drop_rd h
  exact List.mem_of_mem_drop (i := j) (by rw [this]; simp)
theorem back_l2 (l K : List Int) (i : Nat) (hi : i < K.length) (hl : l.length ≤ 100) (hK : K.length ≤ 1000) (hr : 0 < i → rd K ((i - 1 : Nat) : Int) < rd K (i : Int)) (h : ∃ k, catamaranlaw03_BitsBack.l1 k l true K 0 ((i + 1 : Nat) : Int) = some true) (d : Nat) :
    ∀ (j : Nat) (acc : Bool), j ≤ l.length → l.length - j = d → (acc = true ∨ rd K (i : Int) ∈ l.drop j) → ∃ k, catamaranlaw03_BitsBack.l2 k l true K 0 (i : Int) acc (j : Int) = some true := by
  have hw : wrap64 ((i : Int) + 1) = ((i + 1 : Nat) : Int) := by rw [wrap64_id (by omega) (by omega)]; omega
  induction d with
  | zero =>
    intro j acc h0 hd ha
    obtain ⟨k, hk⟩ := h
    refine ⟨k + 1, ?_⟩
    simp only [catamaranlaw03_BitsBack.l2]
    rw [if_neg (by omega)]
    rcases ha with ha | ha
    · rw [if_pos ha, hw]
      by_cases h1 : 0 < i
      · have := hr h1
        rw [if_pos (by omega), if_pos (by omega), if_pos (by omega), show wrap64 ((i : Int) - 1) = ((i - 1 : Nat) : Int) from by rw [wrap64_id (by omega) (by omega)]; omega, if_pos (by omega), if_pos (by omega), if_neg (by omega), hk]
      · rw [if_neg (by omega), hk]
    · rw [List.drop_eq_nil_of_le (by omega)] at ha; simp at ha
  | succ d ih =>
    intro j acc h0 hd ha
    have hj : wrap64 ((j : Int) + 1) = ((j + 1 : Nat) : Int) := by rw [wrap64_id (by omega) (by omega)]; omega
    cases acc with
    | true =>
      obtain ⟨k, hk⟩ := ih (j + 1) true (by omega) (by omega) (.inl rfl)
      refine ⟨k + 1, ?_⟩
      simp only [catamaranlaw03_BitsBack.l2]
      rw [if_pos (by omega), if_pos trivial, hj, hk]
    | false =>
      have hm : rd K (i : Int) ∈ l.drop j := ha.resolve_left (by decide)
      rw [drop_rd (by omega)] at hm
      obtain ⟨k, hk⟩ := ih (j + 1) (rd l (j : Int) == rd K (i : Int)) (by omega) (by omega) (by
        rcases List.mem_cons.1 hm with e | e
        · exact .inl (by rw [e]; simp)
        · exact .inr e)
      refine ⟨k + 1, ?_⟩
      simp only [catamaranlaw03_BitsBack.l2]
      rw [if_pos (by omega), if_neg (by decide), if_pos (by omega), if_pos (by omega), if_pos (by omega), hj, hk]
theorem back_l1 (l K : List Int) (hl : l.length ≤ 100) (hK : K.length ≤ 1000) (hm : ∀ i, i < K.length → rd K (i : Int) ∈ l) (hr : ∀ i, 0 < i → i < K.length → rd K ((i - 1 : Nat) : Int) < rd K (i : Int)) (d : Nat) :
    ∀ i : Nat, i ≤ K.length → K.length - i = d → ∃ k, catamaranlaw03_BitsBack.l1 k l true K 0 (i : Int) = some true := by
  induction d with
  | zero =>
    intro i h0 hd
    refine ⟨1, ?_⟩
    simp only [catamaranlaw03_BitsBack.l1]
    rw [if_neg (by omega), if_pos trivial]
    rfl
  | succ d ih =>
    intro i h0 hd
    obtain ⟨k, hk⟩ := back_l2 l K i (by omega) hl hK (fun h => hr i h (by omega)) (ih (i + 1) (by omega) (by omega)) l.length 0 false (by omega) (by omega) (.inr (by rw [List.drop_zero]; exact hm i (by omega)))
    refine ⟨k + 1, ?_⟩
    simp only [catamaranlaw03_BitsBack.l1]
    rw [if_pos (by omega)]
    exact hk
theorem back_l0 (n : Int) (l U K : List Int) (hl : l.length ≤ 100) (hU : okB U = true) (hh : ∀ t ∈ l, hasS n U t = (true, 0)) (h : ∃ k, catamaranlaw03_BitsBack.l1 k l true K 0 0 = some true) (d : Nat) :
    ∀ j : Nat, j ≤ l.length → l.length - j = d → ∃ k, catamaranlaw03_BitsBack.l0 k n l true U K 0 (j : Int) = some true := by
  induction d with
  | zero =>
    intro j h0 hd
    obtain ⟨k, hk⟩ := h
    refine ⟨k + 1, ?_⟩
    simp only [catamaranlaw03_BitsBack.l0]
    rw [if_neg (by omega), hk]
  | succ d ih =>
    intro j h0 hd
    obtain ⟨k, hk⟩ := ih (j + 1) (by omega) (by omega)
    refine ⟨k + 1, ?_⟩
    have hj : wrap64 ((j : Int) + 1) = ((j + 1 : Nat) : Int) := by rw [wrap64_id (by omega) (by omega)]; omega
    simp only [catamaranlaw03_BitsBack.l0, q_Has.f]
    rw [if_pos (by omega), if_pos (by omega), if_pos hU, hh _ (rd_mem (by omega))]
    simp only [Option.bind_some]
    rw [if_pos trivial, if_pos trivial, hj, hk]
theorem BitsBack : catamaranlaw03_BitsBack.Pure := by
  intro n l s h0 hm1 h1 hw1 hm2 h2 hw2
  have hs := okB_wf hw2
  unfold catamaranlaw03_BitsBack.f
  rw [back_alive]
  simp only [Option.bind_some]
  by_cases c1 : (l.length : Int) > 100
  · refine ⟨1, ?_⟩
    rw [if_pos c1]
    simp [catamaranlaw03_BitsBack.j0]
  by_cases c2 : (s.length : Int) > 100
  · refine ⟨1, ?_⟩
    rw [if_neg c1, if_pos c2]
    simp [catamaranlaw03_BitsBack.j0]
  have hj1 : ∃ k, catamaranlaw03_BitsBack.j1 k n l true false = some true := by
    by_cases hu : (ofS n l).2 = 0
    · obtain ⟨g0, g1, gl, go, gc, gi⟩ := ofS_ok hu
      have hL : listS n (ofS n l).1 = (trk 0 (ofS n l).1, 0) := by unfold listS; rw [if_pos gc]
      have hin := fun t => mem_trk go gc t
      have hlen := (ckS_zero go gc).2.2.1
      obtain ⟨k, hk⟩ := back_l0 n l (ofS n l).1 (trk 0 (ofS n l).1) (by omega) go (fun t ht => by
        have := gl t ht
        unfold hasS
        rw [if_pos gc, if_neg (by omega), gi, decide_eq_true ht]) (back_l1 l _ (by omega) (by have := trk_length (ofS n l).1 0; omega) (fun i hi => by
          have := (hin _).1 (rd_mem hi)
          have h3 := this.2.2
          rw [gi] at h3
          exact of_decide_eq_true h3) (fun i hi hk => by
          have hp := List.pairwise_iff_getElem.1 (trk_rising go gc) (i - 1) i (by omega) hk (by omega)
          have e1 : rd (trk 0 (ofS n l).1) (i : Int) = (trk 0 (ofS n l).1)[i] := by unfold rd; rw [Int.toNat_natCast, List.getD_eq_getElem?_getD, List.getElem?_eq_getElem hk]; rfl
          have e2 : rd (trk 0 (ofS n l).1) ((i - 1 : Nat) : Int) = (trk 0 (ofS n l).1)[i - 1] := by unfold rd; rw [Int.toNat_natCast, List.getD_eq_getElem?_getD, List.getElem?_eq_getElem (by omega)]; rfl
          rw [e1, e2]
          exact hp) (trk 0 (ofS n l).1).length 0 (by omega) (by omega)) l.length 0 (by omega) (by omega)
      refine ⟨k + 1, ?_⟩
      simp only [catamaranlaw03_BitsBack.j1, q_Of.f, q_List.f]
      rw [if_neg (by decide), if_pos (by omega)]
      simp only [Option.bind_some]
      rw [if_pos go]
      simp only [Option.bind_some]
      rw [if_pos hu, hL]
      exact hk
    · refine ⟨1, ?_⟩
      have he := ofS_no hu
      simp only [catamaranlaw03_BitsBack.j1, q_Of.f, q_List.f]
      rw [if_neg (by decide), if_pos (by omega)]
      simp only [Option.bind_some]
      rw [he, if_pos (by decide)]
      simp only [Option.bind_some]
      rw [if_neg hu]
      rfl
  obtain ⟨k, hk⟩ := hj1
  refine ⟨k + 1, ?_⟩
  rw [if_neg c1, if_neg c2]
  simp only [catamaranlaw03_BitsBack.j0, Bool.not_true, q_List.f, q_Of.f]
  rw [if_neg (by decide), if_pos hs]
  simp only [Option.bind_some]
  have hlen := listS_length n s
  rw [if_pos (by omega)]
  simp only [Option.bind_some]
  by_cases hc : ckS n s = 0
  · have hL : listS n s = (trk 0 s, 0) := by unfold listS; rw [if_pos hc]
    rw [hL, if_pos rfl]
    simp only []
    rw [ofS_trk hs hc, if_pos rfl, if_pos rfl, hk]
  · have hL : listS n s = ([], ckS n s) := by unfold listS; rw [if_neg hc]
    rw [hL, if_neg hc]
    exact hk
end Go.Proofs.Ytpbnppeodoflcaa.Pure

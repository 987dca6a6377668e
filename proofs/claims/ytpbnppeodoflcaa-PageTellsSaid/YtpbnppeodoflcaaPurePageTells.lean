/- The plain law of PageTells. -/
import Derived.Test.YtpbnppeodoflcaaF5
import Derived.Test.YtpbnppeodoflcaaPPgx
namespace Go.Proofs.Ytpbnppeodoflcaa.Pure
open Go.RowKit Go.Proofs.Ytpbnppeodoflcaa.PPg Go.Proofs.Ytpbnppeodoflcaa.E Go.Proofs.YtpbnppeodoflcaaW.PrintWords Go.Proofs.YtpbnppeodoflcaaW.PrintLast Go.Proofs.YtpbnppeodoflcaaW.PrintMore
set_option linter.unusedVariables false

/-- A config that may be. -/
def CfgOk (c0 c1 c2 c3 c4 c5 : Int) : Prop := (1 ≤ c0 ∧ c0 ≤ 3) ∧ (1 ≤ c1 ∧ c1 ≤ 16) ∧ (c0 + 2 ≤ c2 ∧ c2 ≤ 32) ∧ (1 ≤ c3 ∧ c3 ≤ c0) ∧ (1 ≤ c4 ∧ c4 ≤ 4) ∧ (4 ≤ c5 ∧ c5 ≤ 64)
instance (c0 c1 c2 c3 c4 c5 : Int) : Decidable (CfgOk c0 c1 c2 c3 c4 c5) := by unfold CfgOk; infer_instance
theorem bnd_iff (b : Int × Int × Int) : bndB b = true ↔ b.2.1 ≤ b.1 ∧ b.1 ≤ b.2.2 := by
  unfold bndB
  simp
theorem cfg_tells (c0 c1 c2 c3 c4 c5 : Int) (h0 : (Lit.int .i64 c0).wf = true) : cfgS c0 c1 c2 c3 c4 c5 = if CfgOk c0 c1 c2 c3 c4 c5 then 0 else 8 := by
  have hw := wfi64 h0
  unfold cfgS
  by_cases hb : (bndC c0 c1 c2 c3 c4 c5).all bndB = true
  · rw [if_pos hb]
    simp only [bndC, List.all_cons, List.all_nil, Bool.and_true, Bool.and_eq_true, bnd_iff] at hb
    rw [w64_id (by omega) (by omega)]
    by_cases h2 : c2 < c0 + 2
    · rw [if_pos h2, if_neg (fun h => by unfold CfgOk at h; omega)]
    · rw [if_neg h2, if_pos (by unfold CfgOk; omega)]
  · rw [if_neg hb, if_neg]
    intro h
    unfold CfgOk at h
    apply hb
    simp only [bndC, List.all_cons, List.all_nil, Bool.and_true, Bool.and_eq_true, bnd_iff]
    omega
theorem may_tells (c0 c1 c2 c3 c4 c5 : Int) (h0 : (Lit.int .i64 c0).wf = true) (k : Nat) : catamaranref07_May.f (k + 1) c0 c1 c2 c3 c4 c5 = some (decide (CfgOk c0 c1 c2 c3 c4 c5)) := by
  have hw := wfi64 h0
  have hin : ∀ a b c : Int, catamaranref07_in.f a b c = some (decide (b ≤ a ∧ a ≤ c)) := by
    intro a b c
    unfold catamaranref07_in.f
    by_cases h : a ≥ b
    · rw [if_pos h]; congr 1; exact decide_eq_decide.2 ⟨fun x => ⟨h, x⟩, fun x => x.2⟩
    · rw [if_neg h, decide_eq_false (by omega)]
  have no : ¬ CfgOk c0 c1 c2 c3 c4 c5 → decide (CfgOk c0 c1 c2 c3 c4 c5) = false := fun h => decide_eq_false h
  unfold catamaranref07_May.f
  simp only [hin, Option.bind_some, catamaranref07_May.j0, decide_eq_true_eq]
  by_cases h1 : 1 ≤ c0 ∧ c0 ≤ 3
  · rw [if_pos h1]
    by_cases h2 : 1 ≤ c1 ∧ c1 ≤ 16
    · rw [if_pos h2, w64_id (by omega) (by omega)]
      by_cases h3 : c0 + 2 ≤ c2 ∧ c2 ≤ 32
      · rw [if_pos h3]
        by_cases h4 : 1 ≤ c3 ∧ c3 ≤ c0
        · rw [decide_eq_true h4, if_neg (by decide)]
          by_cases h5 : 1 ≤ c4 ∧ c4 ≤ 4
          · rw [if_pos h5]
            congr 1
            exact decide_eq_decide.2 ⟨fun h6 => ⟨h1, h2, h3, h4, h5, h6⟩, fun h => h.2.2.2.2.2⟩
          · rw [if_neg h5, no (fun h => h5 h.2.2.2.2.1)]
        · rw [decide_eq_false h4, if_pos (by decide), no (fun h => h4 h.2.2.2.1)]
      · rw [if_neg h3, if_pos trivial, no (fun h => h3 h.2.2.1)]
    · rw [if_neg h2, if_pos trivial, no (fun h => h2 h.2.1)]
  · rw [if_neg h1, if_pos trivial, no (fun h => h1 h.1)]
/-- How many pages a pair has. -/
def manyS (c1 : Int) : Int := if c1 > 8 then 2 else 1
theorem pgs_tells {c1 : Int} (h0 : 1 ≤ c1) (h1 : c1 ≤ 16) : pgsS c1 = manyS c1 := by
  unfold pgsS manyS
  rw [w64_id (x := c1 + 8) (by omega) (by omega), w64_id (x := c1 + 8 - 1) (by omega) (by omega), Int.tdiv_eq_ediv_of_nonneg (by omega), w64_id (by omega) (by omega)]
  split <;> omega
theorem allB_len {c1 : Int} (h0 : 1 ≤ c1) : ((allB c1).length : Int) = manyS c1 := by
  unfold allB
  unfold manyS
  split <;> split <;> first | rfl | omega
/-- Where a page stands. -/
def atS (c0 c1 c2 a1 a2 : Int) : Int := 2 + 2 * c2 + a1 * manyS c1 + a2
def PageOk (c0 c1 a1 a2 : Int) : Prop := (0 ≤ a1 ∧ a1 < c0) ∧ 0 ≤ a2 ∧ a2 < manyS c1
instance (c0 c1 a1 a2 : Int) : Decidable (PageOk c0 c1 a1 a2) := by unfold PageOk; infer_instance
theorem mul_many {a1 c1 : Int} (h0 : 0 ≤ a1) (h1 : a1 < 3) : 0 ≤ a1 * manyS c1 ∧ a1 * manyS c1 ≤ 4 := by
  unfold manyS
  split <;> omega
theorem page_tells (c0 c1 c2 c3 c4 c5 a1 a2 : Int) (h0 : (Lit.int .i64 c0).wf = true) : pageS c0 c1 c2 c3 c4 c5 a1 a2 = if CfgOk c0 c1 c2 c3 c4 c5 then (if PageOk c0 c1 a1 a2 then (atS c0 c1 c2 a1 a2, 0) else (0, 2)) else (0, 8) := by
  unfold pageS
  rw [cfg_tells c0 c1 c2 c3 c4 c5 h0]
  by_cases hc : CfgOk c0 c1 c2 c3 c4 c5
  · rw [if_pos hc, if_pos hc, if_pos rfl]
    have hp := hc
    obtain ⟨⟨p0, p1⟩, ⟨p2, p3⟩, ⟨p4, p5⟩, _⟩ := hp
    have hm := pgs_tells p2 p3
    have hmm : 1 ≤ manyS c1 ∧ manyS c1 ≤ 2 := by unfold manyS; split <;> omega
    have hb : (bndP c0 c1 a1 a2).all bndB = decide (PageOk c0 c1 a1 a2) := by
      simp only [bndP, List.all_cons, List.all_nil, Bool.and_true]
      rw [hm, w64_id (x := c0 - 1) (by omega) (by omega), w64_id (x := manyS c1 - 1) (by omega) (by omega)]
      rw [Bool.eq_iff_iff, Bool.and_eq_true, bnd_iff, bnd_iff, decide_eq_true_eq]
      unfold PageOk
      simp only []
      omega
    rw [hb]
    by_cases hP : PageOk c0 c1 a1 a2
    · rw [if_pos (decide_eq_true hP), if_pos hP]
      have hq := mul_many (c1 := c1) hP.1.1 (by have := hP.1.2; omega)
      have h3 := hP.2
      rw [hm]
      unfold atS
      congr 1
      rw [show wrap64 (wrap64 (wrap64 1 * 2)) = 2 from by unfold wrap64; omega, w64_id (x := 2 * c2) (by omega) (by omega), w64_id (x := 2 * c2) (by omega) (by omega), w64_id (x := a1 * manyS c1) (by omega) (by omega), w64_id (x := a1 * manyS c1 + a2) (by omega) (by omega), w64_id (x := a1 * manyS c1 + a2) (by omega) (by omega), w64_id (x := 2 + 2 * c2) (by omega) (by omega), w64_id (by omega) (by omega)]
      omega
    · rw [if_neg (by rw [decide_eq_false hP]; decide), if_neg hP]
  · rw [if_neg hc, if_neg hc, if_neg (by decide)]
theorem Page_tells (c0 c1 c2 c3 c4 c5 a1 a2 : Int) (h0 : (Lit.int .i64 c0).wf = true) (k : Nat) : catamaranref07_Page.f (k + 1) c0 c1 c2 c3 c4 c5 a1 a2 = some (if CfgOk c0 c1 c2 c3 c4 c5 then (if PageOk c0 c1 a1 a2 then (atS c0 c1 c2 a1 a2, 0) else (0, 2)) else (0, 8)) := by
  have hin : ∀ a b c : Int, catamaranref07_in.f a b c = some (decide (b ≤ a ∧ a ≤ c)) := by
    intro a b c
    unfold catamaranref07_in.f
    by_cases h : a ≥ b
    · rw [if_pos h]; congr 1; exact decide_eq_decide.2 ⟨fun x => ⟨h, x⟩, fun x => x.2⟩
    · rw [if_neg h, decide_eq_false (by omega)]
  unfold catamaranref07_Page.f
  rw [may_tells c0 c1 c2 c3 c4 c5 h0 k]
  simp only [hin, Option.bind_some, decide_eq_true_eq]
  by_cases hc : CfgOk c0 c1 c2 c3 c4 c5
  · rw [if_pos hc, if_pos hc]
    have hp := hc
    obtain ⟨⟨p0, p1⟩, ⟨p2, p3⟩, ⟨p4, p5⟩, _⟩ := hp
    have hmm : 1 ≤ manyS c1 ∧ manyS c1 ≤ 2 := by unfold manyS; split <;> omega
    have hM : catamaranref07_Many.f c0 c1 c2 c3 c4 c5 = some (manyS c1) := by unfold catamaranref07_Many.f manyS; split <;> rfl
    rw [w64_id (x := c0 - 1) (by omega) (by omega)]
    by_cases h1 : 0 ≤ a1 ∧ a1 ≤ c0 - 1
    · rw [if_pos h1, hM]
      simp only [Option.bind_some]
      rw [w64_id (x := manyS c1 - 1) (by omega) (by omega)]
      by_cases h2 : 0 ≤ a2 ∧ a2 ≤ manyS c1 - 1
      · rw [if_pos h2, if_pos (show PageOk c0 c1 a1 a2 from ⟨⟨h1.1, by omega⟩, h2.1, by omega⟩)]
        unfold catamaranref07_OfPage.f catamaranref07_first.f
        rw [hM]
        simp only [Option.bind_some]
        have hq := mul_many (c1 := c1) h1.1 (by omega)
        unfold atS
        rw [w64_id (x := 2 * c2) (by omega) (by omega), w64_id (x := 2 + 2 * c2) (by omega) (by omega), w64_id (x := a1 * manyS c1) (by omega) (by omega), w64_id (x := 2 + 2 * c2 + a1 * manyS c1) (by omega) (by omega), w64_id (by omega) (by omega)]
      · rw [if_neg h2, if_neg]
        rintro ⟨_, h4⟩
        omega
    · rw [if_neg h1, if_neg]
      rintro ⟨h4, _⟩
      omega
  · rw [if_neg hc, if_neg hc]
theorem OfPage_tells (c0 c1 c2 c3 c4 c5 a1 a2 : Int) (hc : CfgOk c0 c1 c2 c3 c4 c5) (hP : PageOk c0 c1 a1 a2) : catamaranref07_OfPage.f c0 c1 c2 c3 c4 c5 a1 a2 = some (atS c0 c1 c2 a1 a2) := by
  have hM : catamaranref07_Many.f c0 c1 c2 c3 c4 c5 = some (manyS c1) := by unfold catamaranref07_Many.f manyS; split <;> rfl
  obtain ⟨⟨p0, p1⟩, ⟨p2, p3⟩, ⟨p4, p5⟩, _⟩ := hc
  have hmm : 1 ≤ manyS c1 ∧ manyS c1 ≤ 2 := by unfold manyS; split <;> omega
  have hq := mul_many (c1 := c1) hP.1.1 (by have := hP.1.2; omega)
  have h2 := hP.2
  unfold catamaranref07_OfPage.f catamaranref07_first.f
  rw [hM]
  simp only [Option.bind_some]
  unfold atS
  rw [w64_id (x := 2 * c2) (by omega) (by omega), w64_id (x := 2 + 2 * c2) (by omega) (by omega), w64_id (x := a1 * manyS c1) (by omega) (by omega), w64_id (x := 2 + 2 * c2 + a1 * manyS c1) (by omega) (by omega), w64_id (by omega) (by omega)]
theorem mask_and : ∀ m : Nat, m < 9 → ∀ c : Nat, c < 256 → (Go.bits .andNot .u8 (c : Int) (2 ^ m - 1) = 0 ↔ Go.bits .and .u8 (c : Int) (2 ^ m - 1) = (c : Int)) := by decide +kernel
theorem mask_all {c1 a2 a3 : Int} (h0 : 1 ≤ c1) (h1 : c1 ≤ 16) (h2 : 0 ≤ a2) (h3 : a2 < manyS c1) (h4 : 0 ≤ a3) (h5 : a3 < 256) : Go.bits .andNot .u8 a3 (rd (allB c1) a2) = 0 ↔ Go.bits .and .u8 a3 (rd (allB c1) a2) = a3 := by
  obtain ⟨c, rfl⟩ := Int.eq_ofNat_of_zero_le h4
  unfold manyS at h3
  unfold allB
  by_cases h8 : c1 ≤ 8
  · rw [if_neg (by omega)] at h3
    obtain rfl : a2 = 0 := by omega
    rw [if_pos h8]
    exact mask_and c1.toNat (by omega) c (by omega)
  · rw [if_pos (by omega)] at h3
    rw [if_neg h8]
    rcases (show a2 = 0 ∨ a2 = 1 by omega) with rfl | rfl
    · exact mask_and 8 (by decide) c (by omega)
    · exact mask_and (c1 - 8).toNat (by omega) c (by omega)
/-- A page's text, or the error. -/
def textS (c0 c1 c2 c3 c4 c5 a1 a2 a3 : Int) : List Int × Int := if CfgOk c0 c1 c2 c3 c4 c5 then (if PageOk c0 c1 a1 a2 then (if Go.bits .andNot .u8 a3 (rd (allB c1) a2) = 0 then ([1, a1 % 256, a2 % 256, a3] ++ List.replicate 28 0, 0) else ([], 2)) else ([], 2)) else ([], 8)
def planS (c0 c1 c2 c3 c4 c5 a1 a2 a3 : Int) : Int × List Int × Int := if (textS c0 c1 c2 c3 c4 c5 a1 a2 a3).2 = 0 then (atS c0 c1 c2 a1 a2, (textS c0 c1 c2 c3 c4 c5 a1 a2 a3).1, 0) else (0, [], (textS c0 c1 c2 c3 c4 c5 a1 a2 a3).2)
theorem textS_ok {c0 c1 c2 c3 c4 c5 a1 a2 a3 : Int} (h : (textS c0 c1 c2 c3 c4 c5 a1 a2 a3).2 = 0) : CfgOk c0 c1 c2 c3 c4 c5 ∧ PageOk c0 c1 a1 a2 := by
  unfold textS at h
  split at h
  · split at h
    · exact ⟨by assumption, by assumption⟩
    · simp at h
  · simp at h
theorem at_tells (c0 c1 c2 c3 c4 c5 a1 a2 : Int) (h0 : (Lit.int .i64 c0).wf = true) : page_at.f c0 c1 c2 c3 c4 c5 a1 a2 = some (if CfgOk c0 c1 c2 c3 c4 c5 then (if PageOk c0 c1 a1 a2 then (atS c0 c1 c2 a1 a2, rd (allB c1) a2, 0) else (0, 0, 2)) else (0, 0, 8)) := by
  unfold page_at.f place_Page.f
  rw [page_tells c0 c1 c2 c3 c4 c5 a1 a2 h0]
  simp only [Option.bind_some]
  by_cases hc : CfgOk c0 c1 c2 c3 c4 c5
  · rw [if_pos hc, if_pos hc]
    by_cases hP : PageOk c0 c1 a1 a2
    · rw [if_pos hP, if_pos hP, if_pos rfl]
      have h1 := hc.2.1
      unfold bits_All.f
      rw [if_pos h1]
      simp only [Option.bind_some]
      rw [if_pos hP.2.1, if_pos (by rw [allB_len h1.1]; exact hP.2.2)]
    · rw [if_neg hP, if_neg hP, if_neg (by decide)]
  · rw [if_neg hc, if_neg hc, if_neg (by decide)]
theorem Text_tells (c0 c1 c2 c3 c4 c5 a1 a2 a3 : Int) (h0 : (Lit.int .i64 c0).wf = true) : page_Text.f c0 c1 c2 c3 c4 c5 a1 a2 a3 = some (textS c0 c1 c2 c3 c4 c5 a1 a2 a3) := by
  unfold page_Text.f textS
  rw [at_tells c0 c1 c2 c3 c4 c5 a1 a2 h0]
  simp only [Option.bind_some]
  by_cases hc : CfgOk c0 c1 c2 c3 c4 c5
  · rw [if_pos hc, if_pos hc]
    by_cases hP : PageOk c0 c1 a1 a2
    · rw [if_pos hP, if_pos hP, if_pos rfl]
      simp only []
      by_cases hb : Go.bits .andNot .u8 a3 (rd (allB c1) a2) = 0
      · rw [if_pos hb, if_pos hb]
        rfl
      · rw [if_neg hb, if_neg hb]
    · rw [if_neg hP, if_neg hP, if_neg (by decide)]
  · rw [if_neg hc, if_neg hc, if_neg (by decide)]
theorem RText_tells (c0 c1 c2 c3 c4 c5 a1 a2 a3 : Int) (h0 : (Lit.int .i64 c0).wf = true) (h3 : (Lit.int .u8 a3).wf = true) (k : Nat) : catamaranref13_Text.f (k + 1) c0 c1 c2 c3 c4 c5 a1 a2 a3 = some (textS c0 c1 c2 c3 c4 c5 a1 a2 a3) := by
  have hw := wfu8 h3
  unfold catamaranref13_Text.f textS
  rw [Page_tells c0 c1 c2 c3 c4 c5 a1 a2 h0 k]
  simp only [Option.bind_some]
  by_cases hc : CfgOk c0 c1 c2 c3 c4 c5
  · rw [if_pos hc, if_pos hc]
    by_cases hP : PageOk c0 c1 a1 a2
    · rw [if_pos hP, if_pos hP, if_pos rfl]
      have h1 := hc.2.1
      unfold q3_Full.f
      rw [if_pos h1]
      simp only [Option.bind_some]
      rw [if_pos hP.2.1, if_pos (by rw [allB_len h1.1]; exact hP.2.2)]
      by_cases hb : Go.bits .andNot .u8 a3 (rd (allB c1) a2) = 0
      · rw [if_pos ((mask_all h1.1 h1.2 hP.2.1 hP.2.2 hw.1 hw.2).1 hb), if_pos hb]
        rfl
      · rw [if_neg (fun e => hb ((mask_all h1.1 h1.2 hP.2.1 hP.2.2 hw.1 hw.2).2 e)), if_neg hb]
    · rw [if_neg hP, if_neg hP, if_neg (by decide)]
  · rw [if_neg hc, if_neg hc, if_neg (by decide)]
theorem Plan_tells (c0 c1 c2 c3 c4 c5 a1 a2 a3 : Int) (h0 : (Lit.int .i64 c0).wf = true) : page_Plan.f c0 c1 c2 c3 c4 c5 a1 a2 a3 = some (planS c0 c1 c2 c3 c4 c5 a1 a2 a3) := by
  unfold page_Plan.f planS
  rw [Text_tells c0 c1 c2 c3 c4 c5 a1 a2 a3 h0, at_tells c0 c1 c2 c3 c4 c5 a1 a2 h0]
  simp only [Option.bind_some]
  by_cases h : (textS c0 c1 c2 c3 c4 c5 a1 a2 a3).2 = 0
  · obtain ⟨hc, hP⟩ := textS_ok h
    rw [if_pos h, if_pos h, if_pos hc, if_pos hP]
  · rw [if_neg h, if_neg h]
theorem RPlan_tells (c0 c1 c2 c3 c4 c5 a1 a2 a3 : Int) (h0 : (Lit.int .i64 c0).wf = true) (h3 : (Lit.int .u8 a3).wf = true) (k : Nat) : catamaranref13_Plan.f (k + 1) c0 c1 c2 c3 c4 c5 a1 a2 a3 = some (planS c0 c1 c2 c3 c4 c5 a1 a2 a3) := by
  unfold catamaranref13_Plan.f planS
  rw [RText_tells c0 c1 c2 c3 c4 c5 a1 a2 a3 h0 h3 k]
  simp only [Option.bind_some]
  by_cases h : (textS c0 c1 c2 c3 c4 c5 a1 a2 a3).2 = 0
  · obtain ⟨hc, hP⟩ := textS_ok h
    rw [if_pos h, if_pos h, OfPage_tells c0 c1 c2 c3 c4 c5 a1 a2 hc hP]
    rfl
  · rw [if_neg h, if_neg h]
end Go.Proofs.Ytpbnppeodoflcaa.Pure

/- bits.Or and bits.Minus: two sets put together. -/
import Derived.Test.YtpbnppeodoflcaaE12
namespace Go.Proofs.Ytpbnppeodoflcaa.E
open Go.RowKit Go.Proofs.YtpbnppeodoflcaaW.PrintWords Go.Proofs.YtpbnppeodoflcaaW.PrintLast Go.Proofs.YtpbnppeodoflcaaW.PrintMore Go.Proofs.Ytpbnppeodoflcaa.K
set_option linter.unusedVariables false
set_option linter.unusedSimpArgs false

def ck2S (n : Int) (a b : List Int) : Int := if ckS n a = 0 then ckS n b else ckS n a
set_option maxHeartbeats 800000 in
set_option maxRecDepth 100000 in
theorem checks_two (a0 : Int) (A1 : Option Addr) (c1 : Nat) (l1 : List Int) (A2 : Option Addr) (c2 : Nat) (l2 : List Int) (g : Nat) (w : World) (hr1 : Kd.C (Kd.int .u8) w A1 l1.length l1) (hc1 : l1.length ≤ c1) (hr2 : Kd.C (Kd.int .u8) w A2 l2.length l2) (hc2 : l2.length ≤ c2)
    (h0 : w.cell? ⟨g, 0, none⟩ = some (.slice A1 l1.length c1)) (h1 : w.cell? ⟨g, 1, none⟩ = some (.slice A2 l2.length c2)) :
    Calls Try.prog 173 #[.int .i64 a0, .slice (some ⟨g, 0, none⟩) 2 2] w fun e w' => e = .returned (.int .i64 (ck2S a0 l1 l2)) ∧ Below w.heap.size w w' := by
  have HR1 := Aside0.mk hr1
  have HR2 := Aside0.mk hr2
  have H1 := Aside0.mk h1
  clear hr1 hr2 h1
  unfold ck2S
  by_cases e1 : ckS a0 l1 = 0
  · rw [if_pos e1]
    by_cases e2 : ckS a0 l2 = 0
    · rw [e2]
      go_enter Try.func173, Try.ntmps173
      go_wp2
      refine wp_loop_rounds 3 ?_
      rw [rounds_succ]
      go_wp2_with (first | (go_at_call 62; refine (bits_Check.calls a0 A1 c1 l1 0 _ HR1.out hc1 (by rw [← e1]; rfl)).mono ?_; rintro e w1 ⟨rfl, hb⟩; (have HB := Aside0.mk hb); (have h1 := pw_cell_below hb H1.out); clear hb))
      rw [rounds_succ]
      go_wp2_with (first | (go_at_call 62; refine (bits_Check.calls a0 A2 c2 l2 0 _ (Kd.C_below HR2.out HB.out) hc2 (by rw [← e2]; rfl)).mono ?_; rintro e w2 ⟨rfl, hb⟩; (have HB2 := Aside0.mk (below_then HB.out HB.out.size hb)); clear hb))
      rw [rounds_succ]
      go_wp2
      go_ret
      exact ⟨rfl, HB2.out⟩
    · have d2 : (ckS a0 l2 != 0) = true := by simpa using e2
      go_enter Try.func173, Try.ntmps173
      go_wp2
      refine wp_loop_rounds 2 ?_
      rw [rounds_succ]
      go_wp2_with (first | (go_at_call 62; refine (bits_Check.calls a0 A1 c1 l1 0 _ HR1.out hc1 (by rw [← e1]; rfl)).mono ?_; rintro e w1 ⟨rfl, hb⟩; (have HB := Aside0.mk hb); (have h1 := pw_cell_below hb H1.out); clear hb))
      rw [rounds_succ]
      go_wp2_with (first | (go_at_call 62; refine (bits_Check.calls a0 A2 c2 l2 (ckS a0 l2) _ (Kd.C_below HR2.out HB.out) hc2 rfl).mono ?_; rintro e w2 ⟨rfl, hb⟩; (have HB2 := Aside0.mk (below_then HB.out HB.out.size hb)); clear hb))
      go_ret
      exact ⟨rfl, HB2.out⟩
  · rw [if_neg e1]
    have d1 : (ckS a0 l1 != 0) = true := by simpa using e1
    go_enter Try.func173, Try.ntmps173
    go_wp2
    refine wp_loop_rounds 1 ?_
    rw [rounds_succ]
    go_wp2_with (first | (go_at_call 62; refine (bits_Check.calls a0 A1 c1 l1 (ckS a0 l1) _ HR1.out hc1 rfl).mono ?_; rintro e w1 ⟨rfl, hb⟩; (have HB := Aside0.mk hb); clear hb))
    go_ret
    exact ⟨rfl, HB.out⟩
-- both

theorem ck2S_zero {n : Int} {a b : List Int} (h : ck2S n a b = 0) : ckS n a = 0 ∧ ckS n b = 0 := by
  unfold ck2S at h
  split at h
  · exact ⟨by assumption, h⟩
  · exact absurd h (by assumption)
theorem ck2S_len {n : Int} {a b : List Int} (ha : okB a = true) (hb : okB b = true) (h : ck2S n a b = 0) : (a.length = 1 ∨ a.length = 2) ∧ b.length = a.length := by
  obtain ⟨h1, h2⟩ := ck2S_zero h
  have := ckS_zero ha h1
  have := ckS_zero hb h2
  omega

set_option maxHeartbeats 800000 in
set_option maxRecDepth 100000 in
theorem or_step (x y : Int) (w : World) : Calls Try.prog 130 #[.int .u8 x, .int .u8 y] w fun e w' => e = .returned (.int .u8 (Go.bits .or .u8 x y)) ∧ w = w' := by
  go_enter Try.func130, Try.ntmps130
  go_wp2
  go_ret
  exact ⟨rfl, rfl⟩
set_option maxHeartbeats 8000000 in
set_option maxRecDepth 100000 in
theorem both_or_1 (a0 : Int) (A1 : Option Addr) (c1 : Nat) (x1 : Int) (A2 : Option Addr) (c2 : Nat) (x2 : Int) (w : World) (hr1 : Kd.C (Kd.int .u8) w A1 1 [x1]) (hc1 : 1 ≤ c1) (hr2 : Kd.C (Kd.int .u8) w A2 1 [x2]) (hc2 : 1 ≤ c2) (hc : ck2S a0 [x1] [x2] = 0) :
    Calls Try.prog 123 #[.int .i64 a0, .slice A1 1 c1, .slice A2 1 c2, .func (.func 130) #[] #[]] w fun e w' => ∃ v0_ : Value, e = .returned (.tuple #[v0_, .int .i64 0]) ∧ Kd.R (Kd.int .u8) 5 w' w.heap.size (fun _ => True) v0_ [Go.bits .or .u8 x1 x2] ∧ Below w.heap.size w w' := by
  obtain ⟨ad1, rfl, hx1⟩ := Kd.at_int hr1 0 (by decide) (by decide)
  obtain ⟨ad2, rfl, hx2⟩ := Kd.at_int hr2 0 (by decide) (by decide)
  rw [Int.toNat_zero, add_none] at hx1 hx2
  replace hx1 : w.cell? ad1 = some (.int .u8 x1) := hx1
  replace hx2 : w.cell? ad2 = some (.int .u8 x2) := hx2
  have hmk : ∀ W, (Instr.makeSlice 24 (.int .i64 1) (.int .i64 1)).run Try.prog W = .ok (.slice (some ⟨W.heap.size, 0, none⟩) 1 1) (W.alloc (.cells #[.int .u8 0] 5)) := fun _ => by kernel_rfl
  have HB0 := Aside0.mk ((Below.refl w.heap.size w).alloc (Nat.le_refl _) (.cells #[.slice (some ad1) 1 c1, .slice (some ad2) 1 c2] 24))
  have HG := Aside0.mk (heap_alloc_new w (.cells #[.slice (some ad1) 1 c1, .slice (some ad2) 1 c2] 24))
  have HR1 := Aside0.mk (Kd.C_below hr1 HB0.out)
  have HR2 := Aside0.mk (Kd.C_below hr2 HB0.out)
  have HX1 := Aside0.mk hx1
  have HX2 := Aside0.mk hx2
  clear hr1 hr2 hx1 hx2
  go_enter Try.func123, Try.ntmps123
  go_wp2_with (first | (go_at_call 173; refine (checks_two a0 (some ad1) c1 [x1] (some ad2) c2 [x2] w.heap.size _ HR1.out hc1 HR2.out hc2 ((blk_cell HG.out 0).trans rfl) ((blk_cell HG.out 1).trans rfl)).mono ?_; rw [hc]; rintro e w1 ⟨rfl, hb⟩; (have HB := Aside0.mk (below_then HB0.out HB0.out.size hb)); clear hb))
  refine wp_loop_rounds 2 ?_
  rw [rounds_succ]
  go_wp2
  have hW := Aside0.mk ((HB.out).alloc HB.out.size (.cells #[.int .u8 0] 5))
  have hxa := pw_cell_below hW.out HX1.out
  have hxb := pw_cell_below hW.out HX2.out
  have hK : Blk (w1.alloc (.cells #[.int .u8 0] 5)) w1.heap.size [0] := ⟨heap_alloc_new w1 (.cells #[.int .u8 0] 5)⟩
  have hco := hK.cell 0 0 rfl
  have hfo := hK.free 0
  clear hK
  go_region_law (go_simp; go_at_call 130; refine (or_step _ _ _).mono ?_; rintro e w2 ⟨rfl, rfl⟩)
  all_goals go_wp2
  all_goals rw [rounds_succ]
  all_goals go_wp2
  all_goals go_ret2
  all_goals exact ⟨_, rfl, row_of_block HB.out.size [Go.bits .or .u8 x1 x2] (by simp) (heap_alloc_new w1 _), (HB.out.alloc HB.out.size _).drew⟩
set_option maxHeartbeats 8000000 in
set_option maxRecDepth 100000 in
theorem both_or_2 (a0 : Int) (A1 : Option Addr) (c1 : Nat) (x1 y1 : Int) (A2 : Option Addr) (c2 : Nat) (x2 y2 : Int) (w : World) (hr1 : Kd.C (Kd.int .u8) w A1 2 [x1, y1]) (hc1 : 2 ≤ c1) (hr2 : Kd.C (Kd.int .u8) w A2 2 [x2, y2]) (hc2 : 2 ≤ c2) (hc : ck2S a0 [x1, y1] [x2, y2] = 0) :
    Calls Try.prog 123 #[.int .i64 a0, .slice A1 2 c1, .slice A2 2 c2, .func (.func 130) #[] #[]] w fun e w' => ∃ v0_ : Value, e = .returned (.tuple #[v0_, .int .i64 0]) ∧ Kd.R (Kd.int .u8) 5 w' w.heap.size (fun _ => True) v0_ [Go.bits .or .u8 x1 x2, Go.bits .or .u8 y1 y2] ∧ Below w.heap.size w w' := by
  obtain ⟨ad1, e1, hx1⟩ := Kd.at_int hr1 0 (by decide) (by decide)
  obtain ⟨ad2, e2, hx2⟩ := Kd.at_int hr2 0 (by decide) (by decide)
  obtain ⟨ad1', e1', hy1⟩ := Kd.at_int hr1 1 (by decide) (by decide)
  obtain ⟨ad2', e2', hy2⟩ := Kd.at_int hr2 1 (by decide) (by decide)
  obtain rfl := Option.some.inj (e1.symm.trans e1')
  obtain rfl := Option.some.inj (e2.symm.trans e2')
  clear e1' e2'
  subst e1 e2
  rw [Int.toNat_zero, add_none] at hx1 hx2
  replace hx1 : w.cell? ad1 = some (.int .u8 x1) := hx1
  replace hx2 : w.cell? ad2 = some (.int .u8 x2) := hx2
  replace hy1 : w.cell? (ad1.add 1) = some (.int .u8 y1) := hy1
  replace hy2 : w.cell? (ad2.add 1) = some (.int .u8 y2) := hy2
  rw [show ad1.add 1 = ⟨ad1.block, ad1.off + 1, none⟩ from by simp [Addr.add]] at hy1
  rw [show ad2.add 1 = ⟨ad2.block, ad2.off + 1, none⟩ from by simp [Addr.add]] at hy2
  have hmk : ∀ W, (Instr.makeSlice 24 (.int .i64 2) (.int .i64 2)).run Try.prog W = .ok (.slice (some ⟨W.heap.size, 0, none⟩) 2 2) (W.alloc (.cells #[.int .u8 0, .int .u8 0] 5)) := fun _ => by kernel_rfl
  have HB0 := Aside0.mk ((Below.refl w.heap.size w).alloc (Nat.le_refl _) (.cells #[.slice (some ad1) 2 c1, .slice (some ad2) 2 c2] 24))
  have HG := Aside0.mk (heap_alloc_new w (.cells #[.slice (some ad1) 2 c1, .slice (some ad2) 2 c2] 24))
  have HR1 := Aside0.mk (Kd.C_below hr1 HB0.out)
  have HR2 := Aside0.mk (Kd.C_below hr2 HB0.out)
  have HX1 := Aside0.mk hx1
  have HX2 := Aside0.mk hx2
  have HY1 := Aside0.mk hy1
  have HY2 := Aside0.mk hy2
  clear hr1 hr2 hx1 hx2 hy1 hy2
  go_enter Try.func123, Try.ntmps123
  go_wp2_with (first | (go_at_call 173; refine (checks_two a0 (some ad1) c1 [x1, y1] (some ad2) c2 [x2, y2] w.heap.size _ HR1.out hc1 HR2.out hc2 ((blk_cell HG.out 0).trans rfl) ((blk_cell HG.out 1).trans rfl)).mono ?_; rw [hc]; rintro e w1 ⟨rfl, hb⟩; (have HB := Aside0.mk (below_then HB0.out HB0.out.size hb)); clear hb))
  refine wp_loop_rounds 3 ?_
  rw [rounds_succ]
  go_wp2
  have hW := Aside0.mk ((HB.out).alloc HB.out.size (.cells #[.int .u8 0, .int .u8 0] 5))
  have hV := Aside0.mk ((HB.out).alloc HB.out.size (.cells #[.int .u8 (Go.bits .or .u8 x1 x2), .int .u8 0] 5))
  have hxa := pw_cell_below hW.out HX1.out
  have hxb := pw_cell_below hW.out HX2.out
  have hK : Blk (w1.alloc (.cells #[.int .u8 0, .int .u8 0] 5)) w1.heap.size [0, 0] := ⟨heap_alloc_new w1 (.cells #[.int .u8 0, .int .u8 0] 5)⟩
  have hco := hK.cell 0 0 rfl
  have hfo := hK.free 0
  clear hK
  go_region_law (go_simp; go_at_call 130; refine (or_step _ _ _).mono ?_; rintro e w2 ⟨rfl, rfl⟩)
  all_goals clear hxa hxb hco hfo
  all_goals
    have hya := pw_cell_below hV.out HY1.out
    have hyb := pw_cell_below hV.out HY2.out
    have hK : Blk (w1.alloc (.cells #[.int .u8 (Go.bits .or .u8 x1 x2), .int .u8 0] 5)) w1.heap.size [Go.bits .or .u8 x1 x2, 0] := ⟨heap_alloc_new w1 (.cells #[.int .u8 (Go.bits .or .u8 x1 x2), .int .u8 0] 5)⟩
    have hco := hK.cell 1 0 rfl
    have hfo := hK.free 1
    clear hK
    go_wp2
    rw [rounds_succ]
    go_wp2
  all_goals go_region_law (go_simp; go_at_call 130; refine (or_step _ _ _).mono ?_; rintro e w2 ⟨rfl, rfl⟩)
  all_goals go_wp2
  all_goals rw [rounds_succ]
  all_goals go_wp2
  all_goals go_ret2
  all_goals exact ⟨_, rfl, row_of_block HB.out.size [Go.bits .or .u8 x1 x2, Go.bits .or .u8 y1 y2] (by simp) (heap_alloc_new w1 _), (HB.out.alloc HB.out.size _).drew.drew⟩
set_option maxHeartbeats 8000000 in
set_option maxRecDepth 100000 in
theorem both_or_no (a0 : Int) (A1 : Option Addr) (c1 : Nat) (l1 : List Int) (A2 : Option Addr) (c2 : Nat) (l2 : List Int) (w : World) (hr1 : Kd.C (Kd.int .u8) w A1 l1.length l1) (hc1 : l1.length ≤ c1) (hr2 : Kd.C (Kd.int .u8) w A2 l2.length l2) (hc2 : l2.length ≤ c2) (hc : ck2S a0 l1 l2 ≠ 0) :
    Calls Try.prog 123 #[.int .i64 a0, .slice A1 l1.length c1, .slice A2 l2.length c2, .func (.func 130) #[] #[]] w fun e w' => e = .returned (.tuple #[.slice none 0 0, .int .i64 (ck2S a0 l1 l2)]) ∧ Below w.heap.size w w' := by
  have HB0 := Aside0.mk ((Below.refl w.heap.size w).alloc (Nat.le_refl _) (.cells #[.slice A1 l1.length c1, .slice A2 l2.length c2] 24))
  have HG := Aside0.mk (heap_alloc_new w (.cells #[.slice A1 l1.length c1, .slice A2 l2.length c2] 24))
  have HR1 := Aside0.mk (Kd.C_below hr1 HB0.out)
  have HR2 := Aside0.mk (Kd.C_below hr2 HB0.out)
  have d1 : (ck2S a0 l1 l2 != 0) = true := by simpa using hc
  clear hr1 hr2 hc
  go_enter Try.func123, Try.ntmps123
  go_wp2_with (first | (go_at_call 173; refine (checks_two a0 A1 c1 l1 A2 c2 l2 w.heap.size _ HR1.out hc1 HR2.out hc2 ((blk_cell HG.out 0).trans rfl) ((blk_cell HG.out 1).trans rfl)).mono ?_; rintro e w1 ⟨rfl, hb⟩; (have HB := Aside0.mk (below_then HB0.out HB0.out.size hb)); clear hb))
  go_ret2
  exact ⟨rfl, HB.out⟩
def orS (n : Int) (a b : List Int) : List Int × Int := if ck2S n a b = 0 then (List.zipWith (Go.bits .or .u8) a b, 0) else ([], ck2S n a b)
def q_Or.f (a0 : Int) (a b : List Int) : Option (List Int × Int) := if okB a = true then (if okB b = true then some (orS a0 a b) else none) else none
set_option maxHeartbeats 8000000 in
set_option maxRecDepth 100000 in
theorem q_Or.calls (a0 : Int) (A1 : Option Addr) (c1 : Nat) (l1 : List Int) (A2 : Option Addr) (c2 : Nat) (l2 : List Int) (r1 : List Int) (r2 : Int) (w : World) (hr1 : Kd.C (Kd.int .u8) w A1 l1.length l1) (hc1 : l1.length ≤ c1) (hr2 : Kd.C (Kd.int .u8) w A2 l2.length l2) (hc2 : l2.length ≤ c2) (h : q_Or.f a0 l1 l2 = some (r1, r2)) :
    Calls Try.prog 66 #[.int .i64 a0, .slice A1 l1.length c1, .slice A2 l2.length c2] w fun e w' => ∃ v0_ : Value, e = .returned (.tuple #[v0_, .int .i64 r2]) ∧ Kd.R (Kd.int .u8) 5 w' w.heap.size (fun _ => True) v0_ r1 ∧ Below w.heap.size w w' := by
  have HV : ∃ v0_ r2', r2' = r2 ∧ True := ⟨0, _, rfl, trivial⟩
  have HC : Calls Try.prog 123 #[.int .i64 a0, .slice A1 l1.length c1, .slice A2 l2.length c2, .func (.func 130) #[] #[]] w fun e w' => ∃ v0_ : Value, e = .returned (.tuple #[v0_, .int .i64 r2]) ∧ Kd.R (Kd.int .u8) 5 w' w.heap.size (fun _ => True) v0_ r1 ∧ Below w.heap.size w w' := by
    unfold q_Or.f at h
    split at h <;> rename_i o1
    · split at h <;> rename_i o2
      · unfold orS at h
        by_cases hc : ck2S a0 l1 l2 = 0
        · rw [if_pos hc] at h
          simp only [Option.some.injEq, Prod.mk.injEq] at h
          obtain ⟨rfl, rfl⟩ := h
          have hl := ck2S_len o1 o2 hc
          rcases l1 with _ | ⟨x1, _ | ⟨y1, _ | ⟨z1, l1⟩⟩⟩ <;> rcases l2 with _ | ⟨x2, _ | ⟨y2, _ | ⟨z2, l2⟩⟩⟩ <;> simp only [List.length_cons, List.length_nil] at hl <;> first | omega | skip
          · exact both_or_1 a0 A1 c1 x1 A2 c2 x2 w hr1 hc1 hr2 hc2 hc
          · exact both_or_2 a0 A1 c1 x1 y1 A2 c2 x2 y2 w hr1 hc1 hr2 hc2 hc
        · rw [if_neg hc] at h
          simp only [Option.some.injEq, Prod.mk.injEq] at h
          obtain ⟨rfl, rfl⟩ := h
          refine (both_or_no a0 A1 c1 l1 A2 c2 l2 w hr1 hc1 hr2 hc2 hc).mono ?_
          rintro e w' ⟨rfl, hb⟩
          exact ⟨_, rfl, Kd.R_nil _ _ _ _ _, hb⟩
      · simp at h
    · simp at h
  have HC' := Aside0.mk HC
  clear h HV HC hr1 hr2
  go_enter Try.func66, Try.ntmps66
  go_wp2_with (first | (go_at_call 123; refine (HC'.out).mono ?_; rintro e w1 ⟨v0_, rfl, hr, hb⟩; (have HR := Aside0.mk hr); (have HB := Aside0.mk hb); clear hr hb))
  go_ret2
  exact ⟨_, rfl, HR.out, HB.out⟩

set_option maxHeartbeats 800000 in
set_option maxRecDepth 100000 in
theorem minus_step (x y : Int) (w : World) : Calls Try.prog 124 #[.int .u8 x, .int .u8 y] w fun e w' => e = .returned (.int .u8 (Go.bits .andNot .u8 x y)) ∧ w = w' := by
  go_enter Try.func124, Try.ntmps124
  go_wp2
  go_ret
  exact ⟨rfl, rfl⟩
set_option maxHeartbeats 8000000 in
set_option maxRecDepth 100000 in
theorem both_minus_1 (a0 : Int) (A1 : Option Addr) (c1 : Nat) (x1 : Int) (A2 : Option Addr) (c2 : Nat) (x2 : Int) (w : World) (hr1 : Kd.C (Kd.int .u8) w A1 1 [x1]) (hc1 : 1 ≤ c1) (hr2 : Kd.C (Kd.int .u8) w A2 1 [x2]) (hc2 : 1 ≤ c2) (hc : ck2S a0 [x1] [x2] = 0) :
    Calls Try.prog 123 #[.int .i64 a0, .slice A1 1 c1, .slice A2 1 c2, .func (.func 124) #[] #[]] w fun e w' => ∃ v0_ : Value, e = .returned (.tuple #[v0_, .int .i64 0]) ∧ Kd.R (Kd.int .u8) 5 w' w.heap.size (fun _ => True) v0_ [Go.bits .andNot .u8 x1 x2] ∧ Below w.heap.size w w' := by
  obtain ⟨ad1, rfl, hx1⟩ := Kd.at_int hr1 0 (by decide) (by decide)
  obtain ⟨ad2, rfl, hx2⟩ := Kd.at_int hr2 0 (by decide) (by decide)
  rw [Int.toNat_zero, add_none] at hx1 hx2
  replace hx1 : w.cell? ad1 = some (.int .u8 x1) := hx1
  replace hx2 : w.cell? ad2 = some (.int .u8 x2) := hx2
  have hmk : ∀ W, (Instr.makeSlice 24 (.int .i64 1) (.int .i64 1)).run Try.prog W = .ok (.slice (some ⟨W.heap.size, 0, none⟩) 1 1) (W.alloc (.cells #[.int .u8 0] 5)) := fun _ => by kernel_rfl
  have HB0 := Aside0.mk ((Below.refl w.heap.size w).alloc (Nat.le_refl _) (.cells #[.slice (some ad1) 1 c1, .slice (some ad2) 1 c2] 24))
  have HG := Aside0.mk (heap_alloc_new w (.cells #[.slice (some ad1) 1 c1, .slice (some ad2) 1 c2] 24))
  have HR1 := Aside0.mk (Kd.C_below hr1 HB0.out)
  have HR2 := Aside0.mk (Kd.C_below hr2 HB0.out)
  have HX1 := Aside0.mk hx1
  have HX2 := Aside0.mk hx2
  clear hr1 hr2 hx1 hx2
  go_enter Try.func123, Try.ntmps123
  go_wp2_with (first | (go_at_call 173; refine (checks_two a0 (some ad1) c1 [x1] (some ad2) c2 [x2] w.heap.size _ HR1.out hc1 HR2.out hc2 ((blk_cell HG.out 0).trans rfl) ((blk_cell HG.out 1).trans rfl)).mono ?_; rw [hc]; rintro e w1 ⟨rfl, hb⟩; (have HB := Aside0.mk (below_then HB0.out HB0.out.size hb)); clear hb))
  refine wp_loop_rounds 2 ?_
  rw [rounds_succ]
  go_wp2
  have hW := Aside0.mk ((HB.out).alloc HB.out.size (.cells #[.int .u8 0] 5))
  have hxa := pw_cell_below hW.out HX1.out
  have hxb := pw_cell_below hW.out HX2.out
  have hK : Blk (w1.alloc (.cells #[.int .u8 0] 5)) w1.heap.size [0] := ⟨heap_alloc_new w1 (.cells #[.int .u8 0] 5)⟩
  have hco := hK.cell 0 0 rfl
  have hfo := hK.free 0
  clear hK
  go_region_law (go_simp; go_at_call 124; refine (minus_step _ _ _).mono ?_; rintro e w2 ⟨rfl, rfl⟩)
  all_goals go_wp2
  all_goals rw [rounds_succ]
  all_goals go_wp2
  all_goals go_ret2
  all_goals exact ⟨_, rfl, row_of_block HB.out.size [Go.bits .andNot .u8 x1 x2] (by simp) (heap_alloc_new w1 _), (HB.out.alloc HB.out.size _).drew⟩
set_option maxHeartbeats 8000000 in
set_option maxRecDepth 100000 in
theorem both_minus_2 (a0 : Int) (A1 : Option Addr) (c1 : Nat) (x1 y1 : Int) (A2 : Option Addr) (c2 : Nat) (x2 y2 : Int) (w : World) (hr1 : Kd.C (Kd.int .u8) w A1 2 [x1, y1]) (hc1 : 2 ≤ c1) (hr2 : Kd.C (Kd.int .u8) w A2 2 [x2, y2]) (hc2 : 2 ≤ c2) (hc : ck2S a0 [x1, y1] [x2, y2] = 0) :
    Calls Try.prog 123 #[.int .i64 a0, .slice A1 2 c1, .slice A2 2 c2, .func (.func 124) #[] #[]] w fun e w' => ∃ v0_ : Value, e = .returned (.tuple #[v0_, .int .i64 0]) ∧ Kd.R (Kd.int .u8) 5 w' w.heap.size (fun _ => True) v0_ [Go.bits .andNot .u8 x1 x2, Go.bits .andNot .u8 y1 y2] ∧ Below w.heap.size w w' := by
  obtain ⟨ad1, e1, hx1⟩ := Kd.at_int hr1 0 (by decide) (by decide)
  obtain ⟨ad2, e2, hx2⟩ := Kd.at_int hr2 0 (by decide) (by decide)
  obtain ⟨ad1', e1', hy1⟩ := Kd.at_int hr1 1 (by decide) (by decide)
  obtain ⟨ad2', e2', hy2⟩ := Kd.at_int hr2 1 (by decide) (by decide)
  obtain rfl := Option.some.inj (e1.symm.trans e1')
  obtain rfl := Option.some.inj (e2.symm.trans e2')
  clear e1' e2'
  subst e1 e2
  rw [Int.toNat_zero, add_none] at hx1 hx2
  replace hx1 : w.cell? ad1 = some (.int .u8 x1) := hx1
  replace hx2 : w.cell? ad2 = some (.int .u8 x2) := hx2
  replace hy1 : w.cell? (ad1.add 1) = some (.int .u8 y1) := hy1
  replace hy2 : w.cell? (ad2.add 1) = some (.int .u8 y2) := hy2
  rw [show ad1.add 1 = ⟨ad1.block, ad1.off + 1, none⟩ from by simp [Addr.add]] at hy1
  rw [show ad2.add 1 = ⟨ad2.block, ad2.off + 1, none⟩ from by simp [Addr.add]] at hy2
  have hmk : ∀ W, (Instr.makeSlice 24 (.int .i64 2) (.int .i64 2)).run Try.prog W = .ok (.slice (some ⟨W.heap.size, 0, none⟩) 2 2) (W.alloc (.cells #[.int .u8 0, .int .u8 0] 5)) := fun _ => by kernel_rfl
  have HB0 := Aside0.mk ((Below.refl w.heap.size w).alloc (Nat.le_refl _) (.cells #[.slice (some ad1) 2 c1, .slice (some ad2) 2 c2] 24))
  have HG := Aside0.mk (heap_alloc_new w (.cells #[.slice (some ad1) 2 c1, .slice (some ad2) 2 c2] 24))
  have HR1 := Aside0.mk (Kd.C_below hr1 HB0.out)
  have HR2 := Aside0.mk (Kd.C_below hr2 HB0.out)
  have HX1 := Aside0.mk hx1
  have HX2 := Aside0.mk hx2
  have HY1 := Aside0.mk hy1
  have HY2 := Aside0.mk hy2
  clear hr1 hr2 hx1 hx2 hy1 hy2
  go_enter Try.func123, Try.ntmps123
  go_wp2_with (first | (go_at_call 173; refine (checks_two a0 (some ad1) c1 [x1, y1] (some ad2) c2 [x2, y2] w.heap.size _ HR1.out hc1 HR2.out hc2 ((blk_cell HG.out 0).trans rfl) ((blk_cell HG.out 1).trans rfl)).mono ?_; rw [hc]; rintro e w1 ⟨rfl, hb⟩; (have HB := Aside0.mk (below_then HB0.out HB0.out.size hb)); clear hb))
  refine wp_loop_rounds 3 ?_
  rw [rounds_succ]
  go_wp2
  have hW := Aside0.mk ((HB.out).alloc HB.out.size (.cells #[.int .u8 0, .int .u8 0] 5))
  have hV := Aside0.mk ((HB.out).alloc HB.out.size (.cells #[.int .u8 (Go.bits .andNot .u8 x1 x2), .int .u8 0] 5))
  have hxa := pw_cell_below hW.out HX1.out
  have hxb := pw_cell_below hW.out HX2.out
  have hK : Blk (w1.alloc (.cells #[.int .u8 0, .int .u8 0] 5)) w1.heap.size [0, 0] := ⟨heap_alloc_new w1 (.cells #[.int .u8 0, .int .u8 0] 5)⟩
  have hco := hK.cell 0 0 rfl
  have hfo := hK.free 0
  clear hK
  go_region_law (go_simp; go_at_call 124; refine (minus_step _ _ _).mono ?_; rintro e w2 ⟨rfl, rfl⟩)
  all_goals clear hxa hxb hco hfo
  all_goals
    have hya := pw_cell_below hV.out HY1.out
    have hyb := pw_cell_below hV.out HY2.out
    have hK : Blk (w1.alloc (.cells #[.int .u8 (Go.bits .andNot .u8 x1 x2), .int .u8 0] 5)) w1.heap.size [Go.bits .andNot .u8 x1 x2, 0] := ⟨heap_alloc_new w1 (.cells #[.int .u8 (Go.bits .andNot .u8 x1 x2), .int .u8 0] 5)⟩
    have hco := hK.cell 1 0 rfl
    have hfo := hK.free 1
    clear hK
    go_wp2
    rw [rounds_succ]
    go_wp2
  all_goals go_region_law (go_simp; go_at_call 124; refine (minus_step _ _ _).mono ?_; rintro e w2 ⟨rfl, rfl⟩)
  all_goals go_wp2
  all_goals rw [rounds_succ]
  all_goals go_wp2
  all_goals go_ret2
  all_goals exact ⟨_, rfl, row_of_block HB.out.size [Go.bits .andNot .u8 x1 x2, Go.bits .andNot .u8 y1 y2] (by simp) (heap_alloc_new w1 _), (HB.out.alloc HB.out.size _).drew.drew⟩
set_option maxHeartbeats 8000000 in
set_option maxRecDepth 100000 in
theorem both_minus_no (a0 : Int) (A1 : Option Addr) (c1 : Nat) (l1 : List Int) (A2 : Option Addr) (c2 : Nat) (l2 : List Int) (w : World) (hr1 : Kd.C (Kd.int .u8) w A1 l1.length l1) (hc1 : l1.length ≤ c1) (hr2 : Kd.C (Kd.int .u8) w A2 l2.length l2) (hc2 : l2.length ≤ c2) (hc : ck2S a0 l1 l2 ≠ 0) :
    Calls Try.prog 123 #[.int .i64 a0, .slice A1 l1.length c1, .slice A2 l2.length c2, .func (.func 124) #[] #[]] w fun e w' => e = .returned (.tuple #[.slice none 0 0, .int .i64 (ck2S a0 l1 l2)]) ∧ Below w.heap.size w w' := by
  have HB0 := Aside0.mk ((Below.refl w.heap.size w).alloc (Nat.le_refl _) (.cells #[.slice A1 l1.length c1, .slice A2 l2.length c2] 24))
  have HG := Aside0.mk (heap_alloc_new w (.cells #[.slice A1 l1.length c1, .slice A2 l2.length c2] 24))
  have HR1 := Aside0.mk (Kd.C_below hr1 HB0.out)
  have HR2 := Aside0.mk (Kd.C_below hr2 HB0.out)
  have d1 : (ck2S a0 l1 l2 != 0) = true := by simpa using hc
  clear hr1 hr2 hc
  go_enter Try.func123, Try.ntmps123
  go_wp2_with (first | (go_at_call 173; refine (checks_two a0 A1 c1 l1 A2 c2 l2 w.heap.size _ HR1.out hc1 HR2.out hc2 ((blk_cell HG.out 0).trans rfl) ((blk_cell HG.out 1).trans rfl)).mono ?_; rintro e w1 ⟨rfl, hb⟩; (have HB := Aside0.mk (below_then HB0.out HB0.out.size hb)); clear hb))
  go_ret2
  exact ⟨rfl, HB.out⟩
def minusS (n : Int) (a b : List Int) : List Int × Int := if ck2S n a b = 0 then (List.zipWith (Go.bits .andNot .u8) a b, 0) else ([], ck2S n a b)
def q_Minus.f (a0 : Int) (a b : List Int) : Option (List Int × Int) := if okB a = true then (if okB b = true then some (minusS a0 a b) else none) else none
set_option maxHeartbeats 8000000 in
set_option maxRecDepth 100000 in
theorem q_Minus.calls (a0 : Int) (A1 : Option Addr) (c1 : Nat) (l1 : List Int) (A2 : Option Addr) (c2 : Nat) (l2 : List Int) (r1 : List Int) (r2 : Int) (w : World) (hr1 : Kd.C (Kd.int .u8) w A1 l1.length l1) (hc1 : l1.length ≤ c1) (hr2 : Kd.C (Kd.int .u8) w A2 l2.length l2) (hc2 : l2.length ≤ c2) (h : q_Minus.f a0 l1 l2 = some (r1, r2)) :
    Calls Try.prog 60 #[.int .i64 a0, .slice A1 l1.length c1, .slice A2 l2.length c2] w fun e w' => ∃ v0_ : Value, e = .returned (.tuple #[v0_, .int .i64 r2]) ∧ Kd.R (Kd.int .u8) 5 w' w.heap.size (fun _ => True) v0_ r1 ∧ Below w.heap.size w w' := by
  have HV : ∃ v0_ r2', r2' = r2 ∧ True := ⟨0, _, rfl, trivial⟩
  have HC : Calls Try.prog 123 #[.int .i64 a0, .slice A1 l1.length c1, .slice A2 l2.length c2, .func (.func 124) #[] #[]] w fun e w' => ∃ v0_ : Value, e = .returned (.tuple #[v0_, .int .i64 r2]) ∧ Kd.R (Kd.int .u8) 5 w' w.heap.size (fun _ => True) v0_ r1 ∧ Below w.heap.size w w' := by
    unfold q_Minus.f at h
    split at h <;> rename_i o1
    · split at h <;> rename_i o2
      · unfold minusS at h
        by_cases hc : ck2S a0 l1 l2 = 0
        · rw [if_pos hc] at h
          simp only [Option.some.injEq, Prod.mk.injEq] at h
          obtain ⟨rfl, rfl⟩ := h
          have hl := ck2S_len o1 o2 hc
          rcases l1 with _ | ⟨x1, _ | ⟨y1, _ | ⟨z1, l1⟩⟩⟩ <;> rcases l2 with _ | ⟨x2, _ | ⟨y2, _ | ⟨z2, l2⟩⟩⟩ <;> simp only [List.length_cons, List.length_nil] at hl <;> first | omega | skip
          · exact both_minus_1 a0 A1 c1 x1 A2 c2 x2 w hr1 hc1 hr2 hc2 hc
          · exact both_minus_2 a0 A1 c1 x1 y1 A2 c2 x2 y2 w hr1 hc1 hr2 hc2 hc
        · rw [if_neg hc] at h
          simp only [Option.some.injEq, Prod.mk.injEq] at h
          obtain ⟨rfl, rfl⟩ := h
          refine (both_minus_no a0 A1 c1 l1 A2 c2 l2 w hr1 hc1 hr2 hc2 hc).mono ?_
          rintro e w' ⟨rfl, hb⟩
          exact ⟨_, rfl, Kd.R_nil _ _ _ _ _, hb⟩
      · simp at h
    · simp at h
  have HC' := Aside0.mk HC
  clear h HV HC hr1 hr2
  go_enter Try.func60, Try.ntmps60
  go_wp2_with (first | (go_at_call 123; refine (HC'.out).mono ?_; rintro e w1 ⟨v0_, rfl, hr, hb⟩; (have HR := Aside0.mk hr); (have HB := Aside0.mk hb); clear hr hb))
  go_ret2
  exact ⟨_, rfl, HR.out, HB.out⟩
end Go.Proofs.Ytpbnppeodoflcaa.E

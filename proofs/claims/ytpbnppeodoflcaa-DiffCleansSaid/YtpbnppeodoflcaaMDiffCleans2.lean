/- Parts of the proof of DiffCleans, no condition: PCkx1, E4, PHsx0, E5, PR3x0, PR3x1, PR3x2, E7, E8, PCtx0, E9, E11, F1, F2, F3, F4, F0, F5, PDfx0, PPgx0. -/
import Derived.Test.YtpbnppeodoflcaaMDiffCleans1
import Derived.Below
import Derived.Deep.Draws
import Derived.Deep.AppendLies
import Derived.Maps.AppendAt
import Derived.OwnWalk
import Derived.Laws.BytesArg
import Derived.Laws.MakeOwn
import Derived.Laws.OwnMore
import Derived.Deep.OwnRows
import Derived.Tactics
import Derived.Lib.ConvBytes
import Derived.Laws.Slices
import Derived.WalkKit
import Derived.KernelRfl
import Derived.RowKit3
import Derived.Deep.LoopGhost
import Derived.Deep.QuietTactic
import Derived.BigQuiet
import Derived.WideLaws
import Derived.Deep.DeepCutAuto
import Derived.Deep.CutBlock
import Derived.Deep.RegionHeld3
import Derived.Laws.Rows
import Derived.Lib.AppendStr
import Derived.ArgAppend
import Derived.Laws.IdiomCopy
import Derived.RowKit
import Derived.OrdersHeld
import Derived.Laws.BitsLemmas
import Derived.Laws.StructEq
import Derived.Test.YtpbnppeodoflcaaProg
import Derived.WalkLawsBesides
import Derived.WalkSpells
import Derived.Outline
import Derived.Laws.CopyOwn
import Derived.LoopN
import Derived.Deep.RegionLaw
import Derived.RangeFuncNested
import Derived.RangeFuncBound
import Derived.RangeFuncCalls
import Derived.RangeFuncLeaves
import Derived.Shelf.Abstract
import Derived.Shelf.RegionOpen
import Derived.OwnWalkIn
import Derived.TacticsInMore
import Derived.LoopNIn
import Derived.LoopIn
section
namespace Go.Proofs.Ytpbnppeodoflcaa.PCk
open Go.Proofs.Ytpbnppeodoflcaa.E
open Go.RowKit Go.Proofs.YtpbnppeodoflcaaW.PrintWords Go.Proofs.YtpbnppeodoflcaaW.PrintLast Go.Proofs.YtpbnppeodoflcaaW.PrintMore
attribute [local go_sem] max2_int min2_int max_two min_two max_three min_three max_four min_four   -- for this text's walks alone
set_option linter.unusedVariables false
set_option linter.unusedSimpArgs false
def bits_Check.l0 : Nat → List Int → List Int → Int → Int → Option (Int)
  | 0, _, _, _, _ => none
  | k + 1, x5, x22, x23, x24 => if x24 < x23 then (if 0 ≤ x24 then (if x24 < (x22.length : Int) then (if x24 < (x5.length : Int) then (if (Go.bits .andNot .u8 (rd x22 x24) (rd x5 x24)) = 0 then (bits_Check.l0 k x5 x22 x23 (wrap64 (x24 + 1))) else (some 8)) else (none)) else (none)) else (none)) else (some 0)
def bits_Check.f (k : Nat) (a0 : Int) (l1 : List Int) : Option (Int) := (bits_All.f a0).bind fun bt101 => (if bt101.2 = 0 then (if (l1.length : Int) = (bt101.1.length : Int) then (bits_Check.l0 k bt101.1 l1 (l1.length : Int) 0) else (some 8)) else (some bt101.2))
set_option maxHeartbeats 8000000 in
set_option maxRecDepth 100000 in
theorem bits_Check.calls (k : Nat) (a0 : Int) (A1 : Option Addr) (c1 : Nat) (l1 : List Int) (r : Int) (w : World) (hr1 : Kd.C (Kd.int .u8) w A1 l1.length l1) (hc1 : l1.length ≤ c1) (h : bits_Check.f k a0 l1 = some r) :
    Calls Try.prog 62 #[.int .i64 a0, .slice A1 l1.length c1] w fun e w' => e = .returned (.int .i64 r) ∧ Below w.heap.size w w' := by
  have HR1 := Aside0.mk hr1
  have HC1 := Aside0.mk hc1
  clear hr1 hc1
  have HB := Aside0.mk (Below.refl w.heap.size w)
  have H : ((bits_All.f a0).bind fun bt101 => (if bt101.2 = 0 then (if (l1.length : Int) = (bt101.1.length : Int) then (bits_Check.l0 k bt101.1 l1 (l1.length : Int) 0) else (some 8)) else (some bt101.2))) = some r := h
  clear h
  replace H := Option.bind_eq_some_iff.mp H
  obtain ⟨⟨t101, t102⟩, A30, H⟩ := H
  replace H : (if t102 = 0 then (if (l1.length : Int) = (t101.length : Int) then (bits_Check.l0 k t101 l1 (l1.length : Int) 0) else (some 8)) else (some t102)) = some r := H
  have A3 := Aside0.mk A30
  clear A30
  by_cases c4 : t102 = 0
  · rw [if_pos c4] at H
    have c4b0 : (t102 == 0) = true := beq_iff_eq.mpr c4
    have c4b1 : (t102 != 0) = false := bne_eq_false_iff_eq.mpr c4
    clear c4
    by_cases c5 : (l1.length : Int) = (t101.length : Int)
    · rw [if_pos c5] at H
      have c5b0 : ((l1.length : Int) == (t101.length : Int)) = true := beq_iff_eq.mpr c5
      have c5b1 : ((l1.length : Int) != (t101.length : Int)) = false := bne_eq_false_iff_eq.mpr c5
      have c5b2 : (l1.length == t101.length) = true := by first | simpa using c5 | (simp at c5 ⊢; omega)
      clear c5
      have H' := Aside0.mk H
      clear H
      go_enter Try.func62, Try.ntmps62
      go_wp2_with (first | ((with_reducible refine gate_callee (f := 61) rfl ?_); refine goesL_ (some 11) rfl rfl Try.func61 (by kernel_rfl) rfl #[.int .i64 a0] rfl (by (try simp only [List.map_toArray, List.map_cons, List.map_nil]); first | done | rfl | (simp only [List.length_drop, List.length_take]; rfl)) ?_; (with_reducible refine (bits_All.calls a0 t101 t102 _ A3.out).mono ?_); rintro e w6 ⟨v103, rfl, ho0, hb⟩; refine ⟨_, rfl, ?_⟩; have n0_ := Aside0.mk (Kd.R_lower ho0 (below_size (by repeat (first | (with_reducible first | exact HB.out | apply below_alloc | apply pw_below_drewN | apply below_drew1) | exact HB.out)))); have n1_ := Aside0.mk (below_step (by repeat (first | (with_reducible first | exact HB.out | apply below_alloc | apply pw_below_drewN | apply below_drew1) | exact HB.out)) hb); clear HB; have HO104 := n0_; have HB := n1_; clear n0_ n1_; (try clear hb); (try clear hb2); (try clear hk); (try clear hi); (try clear ho0); obtain ⟨Ao7, co7, eo7⟩ := Kd.R_slice HO104.out; subst eo7))
      go_loopg [24] k (fun kq v24 w' => ∃ (x24_1 : Int), v24 = .int .i64 x24_1 ∧ Aside0 (bits_Check.l0 kq t101 l1 (l1.length : Int) x24_1 = some r) ∧ Aside0 (kq ≤ k) ∧ Aside0 (Kd.R (Kd.int .u8) 5 w' w.heap.size (fun _ => True) (.slice Ao7 t101.length co7) t101) ∧ Aside0 (Below w.heap.size w w'))
      case atStart => exact ⟨(0), (by first | rfl | (simp; done) | (simp [*]; done)), H', ⟨Nat.le_refl _⟩, ⟨by (with_reducible repeat (first | apply Kd.R_alloc | apply Kd.R_drewN | apply Kd.R_drew)); exact HO104.out⟩, ⟨by repeat (first | (with_reducible first | exact HB.out | apply below_alloc | apply pw_below_drewN | apply below_drew1) | exact HB.out)⟩⟩
      case round =>
        clear H'
        try clear c1
        try clear p2
        try clear c4
        try clear c4b0
        try clear c4b1
        try clear c5
        try clear c5b0
        try clear c5b1
        try clear c5b2
        try clear c6
        obtain ⟨x24_1, rfl, HA, HK1, HO_5, HB⟩ := hrel
        cases gk with
        | zero => exact absurd HA.out (by simp [bits_Check.l0])
        | succ k1 =>
          have H := HA.out
          clear HA
          simp only [bits_Check.l0] at H
          by_cases c8 : x24_1 < (l1.length : Int)
          · rw [if_pos c8] at H
            have c8b0 : decide (x24_1 < (l1.length : Int)) = true := decide_eq_true c8
            clear c8
            by_cases c9 : 0 ≤ x24_1
            · rw [if_pos c9] at H
              have c9b0 : decide (0 ≤ x24_1) = true := decide_eq_true c9
              clear c9
              by_cases c10 : x24_1 < (l1.length : Int)
              · rw [if_pos c10] at H
                have c10b0 : decide (x24_1 < (l1.length : Int)) = true := decide_eq_true c10
                clear c10
                by_cases c11 : x24_1 < (t101.length : Int)
                · rw [if_pos c11] at H
                  have c11b0 : decide (x24_1 < (t101.length : Int)) = true := decide_eq_true c11
                  clear c11
                  by_cases c12 : (Go.bits .andNot .u8 (rd l1 x24_1) (rd t101 x24_1)) = 0
                  · rw [if_pos c12] at H
                    have c12b0 : ((Go.bits .andNot .u8 (rd l1 x24_1) (rd t101 x24_1)) == 0) = true := beq_iff_eq.mpr c12
                    have c12b1 : ((Go.bits .andNot .u8 (rd l1 x24_1) (rd t101 x24_1)) != 0) = false := bne_eq_false_iff_eq.mpr c12
                    clear c12
                    have H' := Aside0.mk H
                    clear H
                    have p105 : 0 ≤ (x24_1 : Int) := of_decide_eq_true (by first | (with_reducible assumption) | assumption)
                    have q105 : x24_1 < (l1.length : Int) := of_decide_eq_true (by first | (with_reducible assumption) | assumption)
                    obtain ⟨ad105, e105, hx105_0⟩ := Kd.at_int HR1.out x24_1 p105 q105
                    cases e105
                    replace hx105_0 := (HB.out.cell (World.block_lt_of_cell? w _ hx105_0)).trans hx105_0
                    replace p105 := eq_true p105
                    replace q105 := eq_true q105
                    have p106 : 0 ≤ (x24_1 : Int) := of_decide_eq_true (by first | (with_reducible assumption) | assumption)
                    have q106 : x24_1 < (t101.length : Int) := of_decide_eq_true (by first | (with_reducible assumption) | assumption)
                    obtain ⟨ad106, e106, hx106_0⟩ := Kd.at_int (Kd.R_reads' HO_5.out).2.2 x24_1 p106 q106
                    cases e106
                    replace p106 := eq_true p106
                    replace q106 := eq_true q106
                    go_wp2
                    go_roundg k1
                    case measure => have := HK1.out; omega
                    case rel => exact ⟨(wrap64 (x24_1 + 1)), (by first | rfl | (simp; done) | (simp [*]; done)), H', ⟨by have := HK1.out; omega⟩, ⟨by (with_reducible repeat (first | apply Kd.R_alloc | apply Kd.R_drewN | apply Kd.R_drew)); exact HO_5.out⟩, ⟨by repeat (first | (with_reducible first | exact HB.out | apply below_alloc | apply pw_below_drewN | apply below_drew1) | exact HB.out)⟩⟩
                  · rw [if_neg c12] at H
                    have c12b0 : ((Go.bits .andNot .u8 (rd l1 x24_1) (rd t101 x24_1)) == 0) = false := beq_eq_false_iff_ne.mpr c12
                    have c12b1 : ((Go.bits .andNot .u8 (rd l1 x24_1) (rd t101 x24_1)) != 0) = true := bne_iff_ne.mpr c12
                    obtain rfl := Option.some.inj H
                    have p105 : 0 ≤ (x24_1 : Int) := of_decide_eq_true (by first | (with_reducible assumption) | assumption)
                    have q105 : x24_1 < (l1.length : Int) := of_decide_eq_true (by first | (with_reducible assumption) | assumption)
                    obtain ⟨ad105, e105, hx105_0⟩ := Kd.at_int HR1.out x24_1 p105 q105
                    cases e105
                    replace hx105_0 := (HB.out.cell (World.block_lt_of_cell? w _ hx105_0)).trans hx105_0
                    replace p105 := eq_true p105
                    replace q105 := eq_true q105
                    have p106 : 0 ≤ (x24_1 : Int) := of_decide_eq_true (by first | (with_reducible assumption) | assumption)
                    have q106 : x24_1 < (t101.length : Int) := of_decide_eq_true (by first | (with_reducible assumption) | assumption)
                    obtain ⟨ad106, e106, hx106_0⟩ := Kd.at_int (Kd.R_reads' HO_5.out).2.2 x24_1 p106 q106
                    cases e106
                    replace p106 := eq_true p106
                    replace q106 := eq_true q106
                    go_wp2
                    go_ret
                    exact ⟨by first | rfl | (simp [errW_none, errW_some] <;> rfl) | (simp [*, errW_none, errW_some] <;> rfl), by repeat (first | (with_reducible first | exact HB.out | apply below_alloc | apply pw_below_drewN | apply below_drew1) | exact HB.out)⟩
                · rw [if_neg c11] at H
                  exact absurd H (by simp)
              · rw [if_neg c10] at H
                exact absurd H (by simp)
            · rw [if_neg c9] at H
              exact absurd H (by simp)
          · rw [if_neg c8] at H
            have c8b0 : decide (x24_1 < (l1.length : Int)) = false := decide_eq_false c8
            clear c8
            obtain rfl := Option.some.inj H
            go_wp2
            go_ret
            exact ⟨by first | rfl | (simp [errW_none, errW_some] <;> rfl) | (simp [*, errW_none, errW_some] <;> rfl), by repeat (first | (with_reducible first | exact HB.out | apply below_alloc | apply pw_below_drewN | apply below_drew1) | exact HB.out)⟩
    · rw [if_neg c5] at H
      have c5b0 : ((l1.length : Int) == (t101.length : Int)) = false := beq_eq_false_iff_ne.mpr c5
      have c5b1 : ((l1.length : Int) != (t101.length : Int)) = true := bne_iff_ne.mpr c5
      have c5b2 : (l1.length == t101.length) = false := by first | simpa using c5 | (simp at c5 ⊢; omega)
      obtain rfl := Option.some.inj H
      go_enter Try.func62, Try.ntmps62
      go_wp2_with (first | ((with_reducible refine gate_callee (f := 61) rfl ?_); refine goesL_ (some 11) rfl rfl Try.func61 (by kernel_rfl) rfl #[.int .i64 a0] rfl (by (try simp only [List.map_toArray, List.map_cons, List.map_nil]); first | done | rfl | (simp only [List.length_drop, List.length_take]; rfl)) ?_; (with_reducible refine (bits_All.calls a0 t101 t102 _ A3.out).mono ?_); rintro e w13 ⟨v103, rfl, ho0, hb⟩; refine ⟨_, rfl, ?_⟩; have n0_ := Aside0.mk (Kd.R_lower ho0 (below_size (by repeat (first | (with_reducible first | exact HB.out | apply below_alloc | apply pw_below_drewN | apply below_drew1) | exact HB.out)))); have n1_ := Aside0.mk (below_step (by repeat (first | (with_reducible first | exact HB.out | apply below_alloc | apply pw_below_drewN | apply below_drew1) | exact HB.out)) hb); clear HB; have HO104 := n0_; have HB := n1_; clear n0_ n1_; (try clear hb); (try clear hb2); (try clear hk); (try clear hi); (try clear ho0); obtain ⟨Ao14, co14, eo14⟩ := Kd.R_slice HO104.out; subst eo14))
      go_ret
      exact ⟨by first | rfl | (simp [errW_none, errW_some] <;> rfl) | (simp [*, errW_none, errW_some] <;> rfl), by repeat (first | (with_reducible first | exact HB.out | apply below_alloc | apply pw_below_drewN | apply below_drew1) | exact HB.out)⟩
  · rw [if_neg c4] at H
    have c4b0 : (t102 == 0) = false := beq_eq_false_iff_ne.mpr c4
    have c4b1 : (t102 != 0) = true := bne_iff_ne.mpr c4
    obtain rfl := Option.some.inj H
    go_enter Try.func62, Try.ntmps62
    go_wp2_with (first | ((with_reducible refine gate_callee (f := 61) rfl ?_); refine goesL_ (some 11) rfl rfl Try.func61 (by kernel_rfl) rfl #[.int .i64 a0] rfl (by (try simp only [List.map_toArray, List.map_cons, List.map_nil]); first | done | rfl | (simp only [List.length_drop, List.length_take]; rfl)) ?_; (with_reducible refine (bits_All.calls a0 t101 t102 _ A3.out).mono ?_); rintro e w15 ⟨v103, rfl, ho0, hb⟩; refine ⟨_, rfl, ?_⟩; have n0_ := Aside0.mk (Kd.R_lower ho0 (below_size (by repeat (first | (with_reducible first | exact HB.out | apply below_alloc | apply pw_below_drewN | apply below_drew1) | exact HB.out)))); have n1_ := Aside0.mk (below_step (by repeat (first | (with_reducible first | exact HB.out | apply below_alloc | apply pw_below_drewN | apply below_drew1) | exact HB.out)) hb); clear HB; have HO104 := n0_; have HB := n1_; clear n0_ n1_; (try clear hb); (try clear hb2); (try clear hk); (try clear hi); (try clear ho0)))
    go_ret
    exact ⟨by first | rfl | (simp [errW_none, errW_some] <;> rfl) | (simp [*, errW_none, errW_some] <;> rfl), by repeat (first | (with_reducible first | exact HB.out | apply below_alloc | apply pw_below_drewN | apply below_drew1) | exact HB.out)⟩
end Go.Proofs.Ytpbnppeodoflcaa.PCk
end
section
namespace Go.Proofs.Ytpbnppeodoflcaa.E
open Go.RowKit Go.Proofs.YtpbnppeodoflcaaW.PrintWords Go.Proofs.YtpbnppeodoflcaaW.PrintLast Go.Proofs.YtpbnppeodoflcaaW.PrintMore Go.Proofs.Ytpbnppeodoflcaa.K
set_option linter.unusedVariables false
set_option linter.unusedSimpArgs false
/-- May it be a set: its pages are no more, and none has a track beyond. -/
def okS (all s : List Int) : Bool := s.length == all.length && (List.range s.length).all fun i => Go.bits .andNot .u8 (rd s (i : Int)) (rd all (i : Int)) == 0
/-- The error of a set of n tracks. -/
def ckS (n : Int) (s : List Int) : Int := if 1 ≤ n ∧ n ≤ 16 then (if okS (allB n) s = true then 0 else 8) else 2
theorem allB_len (n : Int) : (allB n).length ≤ 2 := by unfold allB; split <;> simp
theorem ck_loop (all s : List Int) (hl : s.length = all.length) (h2 : s.length ≤ 2) (d : Nat) : ∀ (k i : Nat), i ≤ s.length → s.length - i = d → d < k →
    PCk.bits_Check.l0 k all s (s.length : Int) (i : Int) = some (if ((List.range' i (s.length - i)).all fun i => Go.bits .andNot .u8 (rd s (i : Int)) (rd all (i : Int)) == 0) = true then 0 else 8) := by
  induction d with
  | zero =>
    intro k i h0 hd hk
    obtain ⟨k, rfl⟩ : ∃ m, k = m + 1 := ⟨k - 1, by omega⟩
    obtain rfl : i = s.length := by omega
    simp only [PCk.bits_Check.l0]
    rw [if_neg (by omega), Nat.sub_self]
    rfl
  | succ d ih =>
    intro k i h0 hd hk
    obtain ⟨k, rfl⟩ : ∃ m, k = m + 1 := ⟨k - 1, by omega⟩
    simp only [PCk.bits_Check.l0]
    rw [if_pos (by omega), if_pos (by omega), if_pos (by omega), if_pos (by omega)]
    have hr : List.range' i (s.length - i) = i :: List.range' (i + 1) (s.length - (i + 1)) := by
      rw [show s.length - i = (s.length - (i + 1)) + 1 from by omega, List.range'_succ]
    rw [hr, List.all_cons]
    by_cases hz : Go.bits .andNot .u8 (rd s (i : Int)) (rd all (i : Int)) = 0
    · rw [if_pos hz]
      have hw : wrap64 ((i : Int) + 1) = ((i + 1 : Nat) : Int) := by unfold wrap64; omega
      rw [hw, ih k (i + 1) (by omega) (by omega) (by omega), hz]
      rfl
    · rw [if_neg hz]
      have : (Go.bits .andNot .u8 (rd s (i : Int)) (rd all (i : Int)) == 0) = false := by simpa using hz
      rw [this]
      simp
theorem ck_tells (n : Int) (s : List Int) : PCk.bits_Check.f 3 n s = some (ckS n s) := by
  unfold PCk.bits_Check.f bits_All.f ckS
  by_cases hn : 1 ≤ n ∧ n ≤ 16
  · rw [if_pos hn, if_pos hn]
    simp only [Option.bind_some, if_true]
    by_cases hl : s.length = (allB n).length
    · rw [if_pos (by omega)]
      have h2 := allB_len n
      have := ck_loop (allB n) s hl (by omega) s.length 3 0 (by omega) (by omega) (by omega)
      rw [show ((0 : Nat) : Int) = 0 from rfl] at this
      rw [this]
      unfold okS
      simp only [Nat.sub_zero, hl, beq_self_eq_true, Bool.true_and, List.range_eq_range']
    · rw [if_neg (by omega)]
      unfold okS
      have : (s.length == (allB n).length) = false := by simpa using hl
      rw [this]
      simp
  · rw [if_neg hn, if_neg hn]
    simp
def bits_Check.f (a0 : Int) (a1 : List Int) : Option Int := some (ckS a0 a1)
theorem bits_Check.calls (a0 : Int) (A1 : Option Addr) (c1 : Nat) (l1 : List Int) (r : Int) (w : World) (hr1 : Kd.C (Kd.int .u8) w A1 l1.length l1) (hc1 : l1.length ≤ c1) (h : bits_Check.f a0 l1 = some r) :
    Calls Try.prog 62 #[.int .i64 a0, .slice A1 l1.length c1] w fun e w' => e = .returned (.int .i64 r) ∧ Below w.heap.size w w' :=
  PCk.bits_Check.calls 3 a0 A1 c1 l1 r w hr1 hc1 (by rw [ck_tells]; exact h)
end Go.Proofs.Ytpbnppeodoflcaa.E
end
section
namespace Go.Proofs.Ytpbnppeodoflcaa.PHs
open Go.Proofs.Ytpbnppeodoflcaa.E
open Go.RowKit Go.Proofs.YtpbnppeodoflcaaW.PrintWords Go.Proofs.YtpbnppeodoflcaaW.PrintLast Go.Proofs.YtpbnppeodoflcaaW.PrintMore
attribute [local go_sem] max2_int min2_int max_two min_two max_three min_three max_four min_four   -- for this text's walks alone
set_option linter.unusedVariables false
set_option linter.unusedSimpArgs false
def errW : Option Int → Value
  | none => .nilIface
  | some c => .iface 0 (.int .i64 c)
theorem errW_none : errW none = .nilIface := rfl
theorem errW_some (c : Int) : errW (some c) = .iface 0 (.int .i64 c) := rfl
end Go.Proofs.Ytpbnppeodoflcaa.PHs
end
section
namespace Go.Proofs.Ytpbnppeodoflcaa.E
open Go.RowKit Go.Shelf Go.Proofs.YtpbnppeodoflcaaW.PrintWords Go.Proofs.YtpbnppeodoflcaaW.PrintLast Go.Proofs.YtpbnppeodoflcaaW.PrintMore Go.Proofs.Ytpbnppeodoflcaa.K
attribute [local go_sem] Oper.semAt_some
set_option linter.unusedVariables false
set_option linter.unusedSimpArgs false
/-- All of a list of numbers are bytes. -/
def okB (l : List Int) : Bool := l.all fun x => decide (0 ≤ x ∧ x < 256)
theorem okB_mem {l : List Int} (h : okB l = true) : ∀ x ∈ l, 0 ≤ x ∧ x < 256 := fun x hx => of_decide_eq_true (List.all_eq_true.1 h x hx)
end Go.Proofs.Ytpbnppeodoflcaa.E
end
section
namespace Go.Proofs.Ytpbnppeodoflcaa.PR3
open Go.RowKit Go.Proofs.YtpbnppeodoflcaaW.PrintWords Go.Proofs.YtpbnppeodoflcaaW.PrintLast Go.Proofs.YtpbnppeodoflcaaW.PrintMore
attribute [local go_sem] max2_int min2_int max_two min_two max_three min_three max_four min_four   -- for this text's walks alone
set_option linter.unusedVariables false
set_option linter.unusedSimpArgs false
def errW : Option Int → Value
  | none => .nilIface
  | some c => .iface 0 (.int .i64 c)
theorem errW_none : errW none = .nilIface := rfl
theorem errW_some (c : Int) : errW (some c) = .iface 0 (.int .i64 c) := rfl
theorem info4 : (Try.prog.info? 4).map (fun i => (i.zero, i.size, i.bytes)) = some (some (.bool false), 1, 1) := by kernel_rfl
theorem info5 : (Try.prog.info? 5).map (fun i => (i.zero, i.size, i.bytes)) = some (some (.int .u8 0), 1, 1) := by kernel_rfl
end Go.Proofs.Ytpbnppeodoflcaa.PR3
end
section
namespace Go.Proofs.Ytpbnppeodoflcaa.PR3
open Go.RowKit Go.Proofs.YtpbnppeodoflcaaW.PrintWords Go.Proofs.YtpbnppeodoflcaaW.PrintLast Go.Proofs.YtpbnppeodoflcaaW.PrintMore
attribute [local go_sem] max2_int min2_int max_two min_two max_three min_three max_four min_four   -- for this text's walks alone
set_option linter.unusedVariables false
set_option linter.unusedSimpArgs false
def catamaranref03_Size.f (a0 : Int) : Option (Bool) := if a0 ≥ 1 then (some (decide (a0 ≤ 16))) else (some false)
set_option maxHeartbeats 8000000 in
set_option maxRecDepth 100000 in
theorem catamaranref03_Size.calls (a0 : Int) (r : Bool) (w : World) (h : catamaranref03_Size.f a0 = some r) :
    Calls Try.prog 151 #[.int .i64 a0] w fun e w' => e = .returned (.bool r) ∧ Drawn0 w w' := by
  have H : (if a0 ≥ 1 then (some (decide (a0 ≤ 16))) else (some false)) = some r := h
  clear h
  by_cases c2 : a0 ≥ 1
  · rw [if_pos c2] at H
    have c2b0 : decide (1 ≤ a0) = true := decide_eq_true c2
    clear c2
    obtain rfl := Option.some.inj H
    go_enter Try.func151, Try.ntmps151
    go_wp2
    go_ret
    exact ⟨by first | rfl | (simp; done) | (simp [*]; done), by repeat (first | exact Drawn0.refl _ | apply Drawn0.step)⟩
  · rw [if_neg c2] at H
    have c2b0 : decide (1 ≤ a0) = false := decide_eq_false c2
    clear c2
    obtain rfl := Option.some.inj H
    go_enter Try.func151, Try.ntmps151
    go_wp2
    go_ret
    exact ⟨by first | rfl | (simp; done) | (simp [*]; done), by repeat (first | exact Drawn0.refl _ | apply Drawn0.step)⟩
def catamaranref03_power.l0 : Nat → Int → Int → Int → Option (Int)
  | 0, _, _, _ => none
  | k + 1, x0, x3, x4 => if x4 < x0 then (catamaranref03_power.l0 k x0 (wrap64 (2 * x3)) (wrap64 (x4 + 1))) else (some x3)
def catamaranref03_power.f (k : Nat) (a0 : Int) : Option (Int) := catamaranref03_power.l0 k a0 1 0
theorem catamaranref03_power.mono_l : ∀ k, (∀ y0 y1 y2, LeO (catamaranref03_power.l0 k y0 y1 y2) (catamaranref03_power.l0 (k + 1) y0 y1 y2))
  | 0 => fun _ _ _ r h => by simp [catamaranref03_power.l0] at h
  | k + 1 => by
    have ih0 := catamaranref03_power.mono_l k
    · intro y0 y1 y2
      unfold catamaranref03_power.l0
      repeat' first
      | (with_reducible exact ih0 _ _ _)
      | (with_reducible exact LeO.refl _)
      | (with_reducible exact LeO.none _)
      | (with_reducible refine LeO.ite ?_ ?_)
      | (with_reducible refine LeO.bind ?_ (fun _ => ?_))
      | exact ih0 _ _ _
      | exact LeO.none _
      | refine LeO.ite ?_ ?_
      | refine LeO.bind ?_ (fun _ => ?_)
theorem catamaranref03_power.mono : ∀ a0 k, LeO (catamaranref03_power.f k a0) (catamaranref03_power.f (k + 1) a0) := by
  intro a0 k
  have ih0 := catamaranref03_power.mono_l k
  unfold catamaranref03_power.f
  repeat' first
      | (with_reducible exact ih0 _ _ _)
      | (with_reducible exact LeO.refl _)
      | (with_reducible exact LeO.none _)
      | (with_reducible refine LeO.ite ?_ ?_)
      | (with_reducible refine LeO.bind ?_ (fun _ => ?_))
      | exact ih0 _ _ _
      | exact LeO.none _
      | refine LeO.ite ?_ ?_
      | refine LeO.bind ?_ (fun _ => ?_)
set_option maxHeartbeats 8000000 in
set_option maxRecDepth 100000 in
theorem catamaranref03_power.calls (k : Nat) (a0 : Int) (r : Int) (w : World) (h : catamaranref03_power.f k a0 = some r) :
    Calls Try.prog 153 #[.int .i64 a0] w fun e w' => e = .returned (.int .i64 r) ∧ Drawn0 w w' := by
  have H : (catamaranref03_power.l0 k a0 1 0) = some r := h
  clear h
  have H' := Aside0.mk H
  clear H
  go_enter Try.func153, Try.ntmps153
  go_wp2
  go_loopg [3, 4] k (fun kq v3 v4 w' => ∃ (x3_1 : Int) (x4_1 : Int), v3 = .int .i64 x3_1 ∧ v4 = .int .i64 x4_1 ∧ Aside0 (catamaranref03_power.l0 kq a0 x3_1 x4_1 = some r) ∧ Aside0 (kq ≤ k) ∧ Drawn0 w w')
  case atStart => exact ⟨(1), (0), (by first | rfl | (simp; done) | (simp [*]; done)), (by first | rfl | (simp; done) | (simp [*]; done)), H', ⟨Nat.le_refl _⟩, by repeat (first | exact Drawn0.refl _ | apply Drawn0.step)⟩
  case round =>
    clear H'
    try clear c1
    obtain ⟨x3_1, x4_1, rfl, rfl, HA, HK1, ⟨m1, rfl⟩⟩ := hrel
    cases gk with
    | zero => exact absurd HA.out (by simp [catamaranref03_power.l0])
    | succ k1 =>
      have H := HA.out
      clear HA
      simp only [catamaranref03_power.l0] at H
      by_cases c2 : x4_1 < a0
      · rw [if_pos c2] at H
        have c2b0 : decide (x4_1 < a0) = true := decide_eq_true c2
        clear c2
        have H' := Aside0.mk H
        clear H
        go_wp2
        go_roundg k1
        case measure => have := HK1.out; omega
        case rel => exact ⟨(wrap64 (2 * x3_1)), (wrap64 (x4_1 + 1)), (by first | rfl | (simp; done) | (simp [*]; done)), (by first | rfl | (simp; done) | (simp [*]; done)), H', ⟨by have := HK1.out; omega⟩, by repeat (first | exact Drawn0.refl _ | apply Drawn0.step)⟩
      · rw [if_neg c2] at H
        have c2b0 : decide (x4_1 < a0) = false := decide_eq_false c2
        clear c2
        obtain rfl := Option.some.inj H
        go_wp2
        go_ret
        exact ⟨by first | rfl | (simp; done) | (simp [*]; done), by repeat (first | exact Drawn0.refl _ | apply Drawn0.step)⟩
def catamaranref03_In.f (k : Nat) (l0 : List Int) (a1 : Int) : Option (Bool) := if a1 ≥ 0 then (if (wrap64 (Int.tdiv a1 8)) < (l0.length : Int) then (if 0 ≤ (wrap64 (Int.tdiv a1 8)) then ((catamaranref03_power.f k (Int.tmod a1 8)).bind fun t102 => (if t102 = 0 then (none) else (some ((Int.tmod (wrap64 (Int.tdiv (wrap64 (rd l0 (wrap64 (Int.tdiv a1 8)))) t102)) 2) == 1)))) else (none)) else (some false)) else (some false)
set_option maxHeartbeats 8000000 in
set_option maxRecDepth 100000 in
theorem catamaranref03_In.calls (k : Nat) (A0 : Option Addr) (c0 : Nat) (l0 : List Int) (a1 : Int) (r : Bool) (w : World) (hr0 : Kd.C (Kd.int .u8) w A0 l0.length l0) (hc0 : l0.length ≤ c0) (h : catamaranref03_In.f k l0 a1 = some r) :
    Calls Try.prog 88 #[.slice A0 l0.length c0, .int .i64 a1] w fun e w' => e = .returned (.bool r) ∧ Drawn0 w w' := by
  have HR0 := Aside0.mk hr0
  have HC0 := Aside0.mk hc0
  clear hr0 hc0
  have H : (if a1 ≥ 0 then (if (wrap64 (Int.tdiv a1 8)) < (l0.length : Int) then (if 0 ≤ (wrap64 (Int.tdiv a1 8)) then ((catamaranref03_power.f k (Int.tmod a1 8)).bind fun t102 => (if t102 = 0 then (none) else (some ((Int.tmod (wrap64 (Int.tdiv (wrap64 (rd l0 (wrap64 (Int.tdiv a1 8)))) t102)) 2) == 1)))) else (none)) else (some false)) else (some false)) = some r := h
  clear h
  by_cases c3 : a1 ≥ 0
  · rw [if_pos c3] at H
    have c3b0 : decide (0 ≤ a1) = true := decide_eq_true c3
    clear c3
    by_cases c4 : (wrap64 (Int.tdiv a1 8)) < (l0.length : Int)
    · rw [if_pos c4] at H
      have c4b0 : decide ((wrap64 (Int.tdiv a1 8)) < (l0.length : Int)) = true := decide_eq_true c4
      clear c4
      obtain ⟨ji5, hji5⟩ : ∃ j_ : Int, (wrap64 (Int.tdiv a1 8)) = j_ := ⟨_, rfl⟩
      replace H : (if 0 ≤ (ji5) then ((catamaranref03_power.f k (Int.tmod a1 8)).bind fun t102 => (if t102 = 0 then (none) else (some ((Int.tmod (wrap64 (Int.tdiv (wrap64 (rd l0 (ji5))) t102)) 2) == 1)))) else (none)) = some r := by first | (rw [hji5] at H; exact H) | (simp only [hji5] at H ⊢; exact H)
      (try rw [hji5] at c4b0)
      have hji5w : (IntKind.i64.wrap (Int.tdiv a1 8)) = ji5 := (i64_w _).trans hji5
      by_cases c6 : 0 ≤ (ji5)
      · rw [if_pos c6] at H
        have c6b0 : decide (0 ≤ (ji5)) = true := decide_eq_true c6
        clear c6
        replace H := Option.bind_eq_some_iff.mp H
        obtain ⟨t102, A70, H⟩ := H
        replace H : (if t102 = 0 then (none) else (some ((Int.tmod (wrap64 (Int.tdiv (wrap64 (rd l0 (ji5))) t102)) 2) == 1))) = some r := H
        have A7 := Aside0.mk A70
        clear A70
        by_cases c8 : t102 = 0
        · rw [if_pos c8] at H
          exact absurd H (by simp)
        · rw [if_neg c8] at H
          have c8b0 : (t102 == 0) = false := beq_eq_false_iff_ne.mpr c8
          have c8b1 : (t102 != 0) = true := bne_iff_ne.mpr c8
          obtain rfl := Option.some.inj H
          have p101 : 0 ≤ ((ji5) : Int) := of_decide_eq_true (by first | (with_reducible assumption) | assumption)
          have q101 : (ji5) < (l0.length : Int) := of_decide_eq_true (by first | (with_reducible assumption) | assumption)
          obtain ⟨ad101, e101, hx101_0⟩ := Kd.at_int HR0.out (ji5) p101 q101
          cases e101
          replace p101 := eq_true p101
          replace q101 := eq_true q101
          go_enter Try.func88, Try.ntmps88
          go_wp2_with (first | (go_at_call 153; (with_reducible refine (catamaranref03_power.calls k (Int.tmod a1 8) t102 _ A7.out).mono ?_); rintro e w' ⟨rfl, ⟨nd, rfl⟩⟩; (try first | exact ⟨rfl, _, World.drewN_drewN _ _ _⟩ | exact ⟨rfl, _, Eq.trans (World.drewN_drewN _ _ _) (congrArg (World.drewN _) (Nat.add_assoc _ _ _))⟩)))
          repeat (go_quiet (first | (go_at_call 153; (with_reducible refine (catamaranref03_power.calls k (Int.tmod a1 8) t102 _ A7.out).mono ?_); rintro e w' ⟨rfl, ⟨nd, rfl⟩⟩; (try first | exact ⟨rfl, _, World.drewN_drewN _ _ _⟩ | exact ⟨rfl, _, Eq.trans (World.drewN_drewN _ _ _) (congrArg (World.drewN _) (Nat.add_assoc _ _ _))⟩))); try go_wp2_with (first | (go_at_call 153; (with_reducible refine (catamaranref03_power.calls k (Int.tmod a1 8) t102 _ A7.out).mono ?_); rintro e w' ⟨rfl, ⟨nd, rfl⟩⟩; (try first | exact ⟨rfl, _, World.drewN_drewN _ _ _⟩ | exact ⟨rfl, _, Eq.trans (World.drewN_drewN _ _ _) (congrArg (World.drewN _) (Nat.add_assoc _ _ _))⟩))))
          go_ret
          exact ⟨by first | rfl | (simp; done) | (simp only [← hji5] <;> (first | rfl | simp)) | (simp [*]; done), by repeat (first | exact Drawn0.refl _ | apply Drawn0.step)⟩
      · rw [if_neg c6] at H
        exact absurd H (by simp)
    · rw [if_neg c4] at H
      have c4b0 : decide ((wrap64 (Int.tdiv a1 8)) < (l0.length : Int)) = false := decide_eq_false c4
      clear c4
      obtain rfl := Option.some.inj H
      go_enter Try.func88, Try.ntmps88
      go_wp2
      repeat (go_quiet (fail); try go_wp2)
      go_ret
      exact ⟨by first | rfl | (simp; done) | (simp [*]; done), by repeat (first | exact Drawn0.refl _ | apply Drawn0.step)⟩
  · rw [if_neg c3] at H
    have c3b0 : decide (0 ≤ a1) = false := decide_eq_false c3
    clear c3
    obtain rfl := Option.some.inj H
    go_enter Try.func88, Try.ntmps88
    go_wp2
    repeat (go_quiet (fail); try go_wp2)
    go_ret
    exact ⟨by first | rfl | (simp; done) | (simp [*]; done), by repeat (first | exact Drawn0.refl _ | apply Drawn0.step)⟩
mutual
def catamaranref03_May.j0 : Nat → Int → List Int → Bool → Option (Bool)
  | 0, _, _, _ => none
  | k + 1, x0, x1, x17 => if x17 = true then (some false) else (catamaranref03_May.l0 k x1 x0)
def catamaranref03_May.l0 : Nat → List Int → Int → Option (Bool)
  | 0, _, _ => none
  | k + 1, x1, x5 => if x5 < (wrap64 (8 * (x1.length : Int))) then ((catamaranref03_In.f k x1 x5).bind fun t104 => (if t104 = true then (some false) else (catamaranref03_May.l0 k x1 (wrap64 (x5 + 1))))) else (some true)
end
def catamaranref03_May.f (k : Nat) (a0 : Int) (l1 : List Int) : Option (Bool) := (catamaranref03_Size.f a0).bind fun t103 => (if t103 = true then (catamaranref03_May.j0 k a0 l1 ((l1.length : Int) != (wrap64 (Int.tdiv (wrap64 ((wrap64 (a0 + 8)) - 1)) 8)))) else (catamaranref03_May.j0 k a0 l1 true))
set_option maxHeartbeats 8000000 in
set_option maxRecDepth 100000 in
theorem catamaranref03_May.calls (k : Nat) (a0 : Int) (A1 : Option Addr) (c1 : Nat) (l1 : List Int) (r : Bool) (w : World) (hr1 : Kd.C (Kd.int .u8) w A1 l1.length l1) (hc1 : l1.length ≤ c1) (h : catamaranref03_May.f k a0 l1 = some r) :
    Calls Try.prog 152 #[.int .i64 a0, .slice A1 l1.length c1] w fun e w' => e = .returned (.bool r) ∧ Drawn0 w w' := by
  have HR1 := Aside0.mk hr1
  have HC1 := Aside0.mk hc1
  clear hr1 hc1
  have H : ((catamaranref03_Size.f a0).bind fun t103 => (if t103 = true then (catamaranref03_May.j0 k a0 l1 ((l1.length : Int) != (wrap64 (Int.tdiv (wrap64 ((wrap64 (a0 + 8)) - 1)) 8)))) else (catamaranref03_May.j0 k a0 l1 true))) = some r := h
  clear h
  have HC3 := Aside0.mk H
  clear H
  go_enter Try.func152, Try.ntmps152
  go_upto_region 1 with (fail)
  go_cut [17] (fun v17 wc => ∃ (kq : Nat) (x17_2 : Bool), v17 = .bool x17_2 ∧ Aside0 (catamaranref03_May.j0 kq a0 l1 x17_2 = some r) ∧ Aside0 (kq ≤ k) ∧ Drawn0 w wc)
  case first =>
    have H := HC3.out
    clear HC3
    replace H := Option.bind_eq_some_iff.mp H
    obtain ⟨t103, A40, H⟩ := H
    replace H : (if t103 = true then (catamaranref03_May.j0 k a0 l1 ((l1.length : Int) != (wrap64 (Int.tdiv (wrap64 ((wrap64 (a0 + 8)) - 1)) 8)))) else (catamaranref03_May.j0 k a0 l1 true)) = some r := H
    have A4 := Aside0.mk A40
    clear A40
    by_cases c5 : t103 = true
    · subst c5
      have H1 : (catamaranref03_May.j0 k a0 l1 ((l1.length : Int) != (wrap64 (Int.tdiv (wrap64 ((wrap64 (a0 + 8)) - 1)) 8)))) = some r := by rw [if_pos rfl] at H; exact H
      clear H
      have H := H1
      clear H1
      have H' := Aside0.mk H
      clear H
      go_wp2_with (first | ((with_reducible refine gate_callee (f := 151) rfl ?_); refine goesL_ (some 7) rfl rfl Try.func151 (by kernel_rfl) rfl #[.int .i64 a0] rfl (by (try simp only [List.map_toArray, List.map_cons, List.map_nil]); first | done | rfl | (simp only [List.length_drop, List.length_take]; rfl)) ?_; (with_reducible refine (catamaranref03_Size.calls a0 true _ A4.out).mono ?_); rintro e w' ⟨rfl, ⟨nd, rfl⟩⟩; refine ⟨_, rfl, ?_⟩))
      go_meet
      case rel => exact ⟨_, (((l1.length : Int) != (wrap64 (Int.tdiv (wrap64 ((wrap64 (a0 + 8)) - 1)) 8)))), (by first | rfl | (simp; done) | (simp [*]; done)), H', ⟨by first | omega | exact Nat.le_refl _⟩, by repeat (first | exact Drawn0.refl _ | apply Drawn0.step)⟩
    · replace c5 := Bool.eq_false_iff.mpr c5
      subst c5
      have H1 : (catamaranref03_May.j0 k a0 l1 true) = some r := by rw [if_neg (show ¬ (false = true) by decide)] at H; exact H
      clear H
      have H := H1
      clear H1
      have H' := Aside0.mk H
      clear H
      go_wp2_with (first | ((with_reducible refine gate_callee (f := 151) rfl ?_); refine goesL_ (some 7) rfl rfl Try.func151 (by kernel_rfl) rfl #[.int .i64 a0] rfl (by (try simp only [List.map_toArray, List.map_cons, List.map_nil]); first | done | rfl | (simp only [List.length_drop, List.length_take]; rfl)) ?_; (with_reducible refine (catamaranref03_Size.calls a0 false _ A4.out).mono ?_); rintro e w' ⟨rfl, ⟨nd, rfl⟩⟩; refine ⟨_, rfl, ?_⟩))
      go_meet
      case rel => exact ⟨_, (true), (by first | rfl | (simp; done) | (simp [*]; done)), H', ⟨by first | omega | exact Nat.le_refl _⟩, by repeat (first | exact Drawn0.refl _ | apply Drawn0.step)⟩
  case rest =>
    clear HC3
    try clear c1
    try clear p2
    try clear c5
    obtain ⟨kq, x17_2, rfl, HA, HJ2, ⟨mc2, rfl⟩⟩ := hcut
    cases kq with
    | zero => exact absurd HA.out (by simp [catamaranref03_May.j0])
    | succ kj2 =>
      have H := HA.out
      clear HA
      simp only [catamaranref03_May.j0] at H
      by_cases c6 : x17_2 = true
      · subst c6
        have H1 : (some false) = some r := by rw [if_pos rfl] at H; exact H
        clear H
        have H := H1
        clear H1
        obtain rfl := Option.some.inj H
        go_wp2
        go_ret
        exact ⟨by first | rfl | (simp; done) | (simp [*]; done), by repeat (first | exact Drawn0.refl _ | apply Drawn0.step)⟩
      · replace c6 := Bool.eq_false_iff.mpr c6
        subst c6
        have H1 : (catamaranref03_May.l0 kj2 l1 a0) = some r := by rw [if_neg (show ¬ (false = true) by decide)] at H; exact H
        clear H
        have H := H1
        clear H1
        have H' := Aside0.mk H
        clear H
        go_wp2
        go_loopg [5] kj2 (fun kq v5 w' => ∃ (x5_2 : Int), v5 = .int .i64 x5_2 ∧ Aside0 (catamaranref03_May.l0 kq l1 x5_2 = some r) ∧ Aside0 (kq ≤ kj2) ∧ Drawn0 w w')
        case atStart => exact ⟨(a0), (by first | rfl | (simp; done) | (simp [*]; done)), H', ⟨Nat.le_refl _⟩, by repeat (first | exact Drawn0.refl _ | apply Drawn0.step)⟩
        case round =>
          clear H'
          try clear c1
          try clear c2
          try clear p2
          try clear c5
          try clear c6
          try clear p6
          try clear p2
          obtain ⟨x5_2, rfl, HA, HK2, ⟨m2, rfl⟩⟩ := hrel
          cases gk with
          | zero => exact absurd HA.out (by simp [catamaranref03_May.l0])
          | succ k2 =>
            have H := HA.out
            clear HA
            simp only [catamaranref03_May.l0] at H
            by_cases c7 : x5_2 < (wrap64 (8 * (l1.length : Int)))
            · rw [if_pos c7] at H
              have c7b0 : decide (x5_2 < (wrap64 (8 * (l1.length : Int)))) = true := decide_eq_true c7
              clear c7
              replace H := Option.bind_eq_some_iff.mp H
              obtain ⟨t104, A80, H⟩ := H
              replace H : (if t104 = true then (some false) else (catamaranref03_May.l0 k2 l1 (wrap64 (x5_2 + 1)))) = some r := H
              have A8 := Aside0.mk A80
              clear A80
              by_cases c9 : t104 = true
              · subst c9
                have H1 : (some false) = some r := by rw [if_pos rfl] at H; exact H
                clear H
                have H := H1
                clear H1
                obtain rfl := Option.some.inj H
                go_wp2_with (first | ((with_reducible refine gate_callee (f := 88) rfl ?_); refine goesL_ (some 28) rfl rfl Try.func88 (by kernel_rfl) rfl #[.slice A1 l1.length c1, .int .i64 x5_2] rfl (by (try simp only [List.map_toArray, List.map_cons, List.map_nil]); first | done | rfl | (simp only [List.length_drop, List.length_take]; rfl)) ?_; (with_reducible refine (catamaranref03_In.calls k2 _ _ l1 x5_2 true _ ?side1 ?side2 A8.out).mono ?_); (case side1 => repeat (first | exact HR1.out | (with_reducible refine Kd.C_alloc ?_ _) | (with_reducible refine Kd.C_drewN ?_ _) | (with_reducible refine Kd.C_drew ?_))); (case side2 => exact HC1.out); rintro e w' ⟨rfl, ⟨nd, rfl⟩⟩; refine ⟨_, rfl, ?_⟩))
                go_ret
                exact ⟨by first | rfl | (simp; done) | (simp [*]; done), by repeat (first | exact Drawn0.refl _ | apply Drawn0.step)⟩
              · replace c9 := Bool.eq_false_iff.mpr c9
                subst c9
                have H1 : (catamaranref03_May.l0 k2 l1 (wrap64 (x5_2 + 1))) = some r := by rw [if_neg (show ¬ (false = true) by decide)] at H; exact H
                clear H
                have H := H1
                clear H1
                have H' := Aside0.mk H
                clear H
                go_wp2_with (first | ((with_reducible refine gate_callee (f := 88) rfl ?_); refine goesL_ (some 28) rfl rfl Try.func88 (by kernel_rfl) rfl #[.slice A1 l1.length c1, .int .i64 x5_2] rfl (by (try simp only [List.map_toArray, List.map_cons, List.map_nil]); first | done | rfl | (simp only [List.length_drop, List.length_take]; rfl)) ?_; (with_reducible refine (catamaranref03_In.calls k2 _ _ l1 x5_2 false _ ?side1 ?side2 A8.out).mono ?_); (case side1 => repeat (first | exact HR1.out | (with_reducible refine Kd.C_alloc ?_ _) | (with_reducible refine Kd.C_drewN ?_ _) | (with_reducible refine Kd.C_drew ?_))); (case side2 => exact HC1.out); rintro e w' ⟨rfl, ⟨nd, rfl⟩⟩; refine ⟨_, rfl, ?_⟩))
                go_roundg k2
                case measure => have := HJ2.out; have := HK2.out; omega
                case rel => exact ⟨(wrap64 (x5_2 + 1)), (by first | rfl | (simp; done) | (simp [*]; done)), H', ⟨by have := HJ2.out; have := HK2.out; omega⟩, by repeat (first | exact Drawn0.refl _ | apply Drawn0.step)⟩
            · rw [if_neg c7] at H
              have c7b0 : decide (x5_2 < (wrap64 (8 * (l1.length : Int)))) = false := decide_eq_false c7
              clear c7
              obtain rfl := Option.some.inj H
              go_wp2
              go_ret
              exact ⟨by first | rfl | (simp; done) | (simp [*]; done), by repeat (first | exact Drawn0.refl _ | apply Drawn0.step)⟩
end Go.Proofs.Ytpbnppeodoflcaa.PR3
end
section
namespace Go.Proofs.Ytpbnppeodoflcaa.PR3
open Go.RowKit Go.Proofs.YtpbnppeodoflcaaW.PrintWords Go.Proofs.YtpbnppeodoflcaaW.PrintLast Go.Proofs.YtpbnppeodoflcaaW.PrintMore
attribute [local go_sem] max2_int min2_int max_two min_two max_three min_three max_four min_four   -- for this text's walks alone
set_option linter.unusedVariables false
set_option linter.unusedSimpArgs false
def catamaranref03_Made.l0 : Nat → Int → List Bool → List Int → Int → Option (List Int)
  | 0, _, _, _, _ => none
  | k + 1, x0, x1, x5, x6 => if x6 < x0 then (if 0 ≤ x6 then (if x6 < (x1.length : Int) then (if rdOf false x1 x6 = true then (if 0 ≤ (wrap64 (Int.tdiv x6 8)) then (if (wrap64 (Int.tdiv x6 8)) < (x5.length : Int) then ((catamaranref03_power.f k (Int.tmod x6 8)).bind fun t132 => (catamaranref03_Made.l0 k x0 x1 (x5.set ((wrap64 (Int.tdiv x6 8)) : Int).toNat (((rd x5 (wrap64 (Int.tdiv x6 8))) + ((t132) % 256)) % 256)) (wrap64 (x6 + 1)))) else (none)) else (none)) else (catamaranref03_Made.l0 k x0 x1 x5 (wrap64 (x6 + 1)))) else (none)) else (none)) else (some x5)
def catamaranref03_Made.f (k : Nat) (a0 : Int) (l1 : List Bool) : Option (List Int) := if 0 ≤ (wrap64 (Int.tdiv (wrap64 ((wrap64 (a0 + 8)) - 1)) 8)) then (if (wrap64 (Int.tdiv (wrap64 ((wrap64 (a0 + 8)) - 1)) 8) : Int).toNat ≤ 281474976710656 then (catamaranref03_Made.l0 k a0 l1 (List.replicate (wrap64 (Int.tdiv (wrap64 ((wrap64 (a0 + 8)) - 1)) 8) : Int).toNat 0) 0) else (none)) else (none)
def catamaranref03_Made.T6 : Bool × List (List Nat × List Nat) := (true, [([], []), ([], []), ([1], [1]), ([], []), ([], []), ([4], [4]), ([3, 5], [3, 5]), ([6], [6]), ([], []), ([8], [8]), ([9], [9]), ([10], [10]), ([7, 11], [7, 11]), ([0, 2, 0, 1, 2, 3, 4, 5, 6, 7, 8, 9, 10, 11, 12], [0, 2]), ([13, 12, 10, 0, 1, 2, 3, 4, 5, 6, 7, 8, 9, 10, 11, 12], [12, 13])])
def catamaranref03_Made.B6 : List Nat := [0, 0, 2, 0, 0, 16, 56, 120, 0, 256, 768, 1792, 4088, 8191, 16383]
theorem catamaranref03_Made.tab6 : rtab .any (opsOf Try.f146 6) = catamaranref03_Made.T6 := by kernel_rfl
theorem catamaranref03_Made.bits6 : waitsOk catamaranref03_Made.T6.2 catamaranref03_Made.B6 = true := by kernel_rfl
set_option maxHeartbeats 8000000 in
set_option maxRecDepth 100000 in
theorem catamaranref03_Made.calls (k : Nat) (a0 : Int) (A1 : Option Addr) (c1 : Nat) (l1 : List Bool) (r : List Int) (w : World) (hr1 : Kd.C Kd.bool w A1 l1.length l1) (hc1 : l1.length ≤ c1) (h : catamaranref03_Made.f k a0 l1 = some r) :
    Calls Try.prog 146 #[.int .i64 a0, .slice A1 l1.length c1] w fun e w' => ∃ v0_ : Value, e = .returned (v0_) ∧ Kd.R (Kd.int .u8) 5 w' w.heap.size (fun _ => True) v0_ r ∧ Below w.heap.size w w' := by
  have HR1 := Aside0.mk hr1
  have HC1 := Aside0.mk hc1
  clear hr1 hc1
  have HB := Aside0.mk (Below.refl w.heap.size w)
  have H : (if 0 ≤ (wrap64 (Int.tdiv (wrap64 ((wrap64 (a0 + 8)) - 1)) 8)) then (if (wrap64 (Int.tdiv (wrap64 ((wrap64 (a0 + 8)) - 1)) 8) : Int).toNat ≤ 281474976710656 then (catamaranref03_Made.l0 k a0 l1 (List.replicate (wrap64 (Int.tdiv (wrap64 ((wrap64 (a0 + 8)) - 1)) 8) : Int).toNat 0) 0) else (none)) else (none)) = some r := h
  clear h
  obtain ⟨ji3, hji3⟩ : ∃ j_ : Int, (wrap64 (Int.tdiv (wrap64 ((wrap64 (a0 + 8)) - 1)) 8)) = j_ := ⟨_, rfl⟩
  replace H : (if 0 ≤ (ji3) then (if (ji3 : Int).toNat ≤ 281474976710656 then (catamaranref03_Made.l0 k a0 l1 (List.replicate (ji3 : Int).toNat 0) 0) else (none)) else (none)) = some r := by first | (rw [hji3] at H; exact H) | (simp only [hji3] at H ⊢; exact H)
  have hji3w : (IntKind.i64.wrap (Int.tdiv (wrap64 ((wrap64 (a0 + 8)) - 1)) 8)) = ji3 := (i64_w _).trans hji3
  by_cases c4 : 0 ≤ (ji3)
  · rw [if_pos c4] at H
    have c4b0 := eq_true c4
    have c4b1 : decide (0 ≤ (ji3)) = true := decide_eq_true c4
    clear c4
    by_cases c5 : (ji3 : Int).toNat ≤ 281474976710656
    · rw [if_pos c5] at H
      have c5b0 := eq_true c5
      have c5b1 : decide ((ji3 : Int).toNat ≤ 281474976710656) = true := decide_eq_true c5
      clear c5
      obtain ⟨y127, hy127⟩ : ∃ y_ : List Int, y_ = (List.replicate (ji3 : Int).toNat 0) := ⟨_, rfl⟩
      replace H : (catamaranref03_Made.l0 k a0 l1 y127 0) = some r := by first | (rw [hy127]; with_reducible exact H) | (have H2_ := (Option.bind_some _ _).symm.trans H; rw [hy127]; with_reducible exact H2_) | (have H2_ := (Option.bind_some _ _).symm.trans H; with_reducible exact H2_) | with_reducible exact H | (rw [hy127]; exact H) | exact H
      have Ny127 := Aside0.mk hy127
      clear hy127
      have H' := Aside0.mk H
      clear H
      go_enter Try.func146, Try.ntmps146
      go_wp2_with (first | ((with_reducible refine gate_dst (N := 11) rfl ?_); refine Kd.R_make (Kd.int .u8) _ 5 rfl (N := 11) rfl 24 _ _ rfl ji3 rfl rfl Try.underlying24 (.int .u8 0) 1 info5 rfl (by decide) (by omega) 0 (ok := fun _ => True) (okp := fun _ => True) rfl (fun _ hk => hk) trivial (of_decide_eq_true (by first | (with_reducible assumption) | assumption)) (Nat.le_trans (Nat.mul_le_mul_right _ (of_decide_eq_true (by first | (with_reducible assumption) | assumption) : ji3.toNat ≤ 281474976710656)) (by omega)) (Below.refl _ _) (Nat.le_refl _) ?_; intro v128 w6 ho7 hb hg_ hnew_; clear hg_ hnew_; (first | rw [← Ny127.out] at ho7 | (simp only [Int.reduceToNat] at ho7; rw [← Ny127.out] at ho7)); have n0_ := Aside0.mk (Kd.R_lower ho7 (below_size (by repeat (first | (with_reducible first | exact HB.out | apply below_alloc | apply pw_below_drewN | apply below_drew1) | exact HB.out)))); have n1_ := Aside0.mk (below_step (by repeat (first | (with_reducible first | exact HB.out | apply below_alloc | apply pw_below_drewN | apply below_drew1) | exact HB.out)) hb); clear HB; have HO129 := n0_; have HB := n1_; clear n0_ n1_; clear hb ho7))
      go_loopg [6] k (fun kq v6 w' => ∃ (x5_1 : List Int) (x6_1 : Int), v6 = .int .i64 x6_1 ∧ Aside0 (catamaranref03_Made.l0 kq a0 l1 x5_1 x6_1 = some r) ∧ Aside0 (kq ≤ k) ∧ Aside0 (Kd.R (Kd.int .u8) 5 w' w.heap.size (fun _ => True) v128 x5_1) ∧ Aside0 (Below w.heap.size w w'))
      case atStart => exact ⟨(y127), (0), (by first | rfl | (simp; done) | (simp [*]; done)), H', ⟨Nat.le_refl _⟩, ⟨by (with_reducible repeat (first | apply Kd.R_alloc | apply Kd.R_drewN | apply Kd.R_drew)); exact HO129.out⟩, ⟨by repeat (first | (with_reducible first | exact HB.out | apply below_alloc | apply pw_below_drewN | apply below_drew1) | exact HB.out)⟩⟩
      case round =>
        clear H'
        try clear c1
        try clear p2
        try clear c4
        try clear c4b0
        try clear c4b1
        try clear c5
        try clear c5b0
        try clear c5b1
        try clear p6
        obtain ⟨x5_1, x6_1, rfl, HA, HK1, HO_5, HB⟩ := hrel
        cases gk with
        | zero => exact absurd HA.out (by simp [catamaranref03_Made.l0])
        | succ k1 =>
          have H := HA.out
          clear HA
          simp only [catamaranref03_Made.l0] at H
          by_cases c8 : x6_1 < a0
          · rw [if_pos c8] at H
            have c8b0 : decide (x6_1 < a0) = true := decide_eq_true c8
            clear c8
            by_cases c9 : 0 ≤ x6_1
            · rw [if_pos c9] at H
              have c9b0 : decide (0 ≤ x6_1) = true := decide_eq_true c9
              clear c9
              by_cases c10 : x6_1 < (l1.length : Int)
              · rw [if_pos c10] at H
                have c10b0 : decide (x6_1 < (l1.length : Int)) = true := decide_eq_true c10
                clear c10
                obtain ⟨bq11, hbq11⟩ : ∃ b_ : Bool, b_ = (rdOf false l1 x6_1) := ⟨_, rfl⟩
                replace H : (if bq11 = true then (if 0 ≤ (wrap64 (Int.tdiv x6_1 8)) then (if (wrap64 (Int.tdiv x6_1 8)) < (x5_1.length : Int) then ((catamaranref03_power.f k1 (Int.tmod x6_1 8)).bind fun t132 => (catamaranref03_Made.l0 k1 a0 l1 (x5_1.set ((wrap64 (Int.tdiv x6_1 8)) : Int).toNat (((rd x5_1 (wrap64 (Int.tdiv x6_1 8))) + ((t132) % 256)) % 256)) (wrap64 (x6_1 + 1)))) else (none)) else (none)) else (catamaranref03_Made.l0 k1 a0 l1 x5_1 (wrap64 (x6_1 + 1)))) = some r := by rw [← hbq11] at H; exact H
                have Nbq11 := Aside0.mk hbq11
                clear hbq11
                by_cases c12 : bq11 = true
                · subst c12
                  have H1 : (if 0 ≤ (wrap64 (Int.tdiv x6_1 8)) then (if (wrap64 (Int.tdiv x6_1 8)) < (x5_1.length : Int) then ((catamaranref03_power.f k1 (Int.tmod x6_1 8)).bind fun t132 => (catamaranref03_Made.l0 k1 a0 l1 (x5_1.set ((wrap64 (Int.tdiv x6_1 8)) : Int).toNat (((rd x5_1 (wrap64 (Int.tdiv x6_1 8))) + ((t132) % 256)) % 256)) (wrap64 (x6_1 + 1)))) else (none)) else (none)) = some r := by rw [if_pos rfl] at H; exact H
                  clear H
                  have H := H1
                  clear H1
                  obtain ⟨ji13, hji13⟩ : ∃ j_ : Int, (wrap64 (Int.tdiv x6_1 8)) = j_ := ⟨_, rfl⟩
                  replace H : (if 0 ≤ (ji13) then (if (ji13) < (x5_1.length : Int) then ((catamaranref03_power.f k1 (Int.tmod x6_1 8)).bind fun t132 => (catamaranref03_Made.l0 k1 a0 l1 (x5_1.set ((ji13) : Int).toNat (((rd x5_1 (ji13)) + ((t132) % 256)) % 256)) (wrap64 (x6_1 + 1)))) else (none)) else (none)) = some r := by first | (rw [hji13] at H; exact H) | (simp only [hji13] at H ⊢; exact H)
                  have hji13w : (IntKind.i64.wrap (Int.tdiv x6_1 8)) = ji13 := (i64_w _).trans hji13
                  by_cases c14 : 0 ≤ (ji13)
                  · rw [if_pos c14] at H
                    have c14b0 : decide (0 ≤ (ji13)) = true := decide_eq_true c14
                    clear c14
                    by_cases c15 : (ji13) < (x5_1.length : Int)
                    · rw [if_pos c15] at H
                      have c15b0 : decide ((ji13) < (x5_1.length : Int)) = true := decide_eq_true c15
                      clear c15
                      replace H := Option.bind_eq_some_iff.mp H
                      obtain ⟨t132, A160, H⟩ := H
                      replace H : (catamaranref03_Made.l0 k1 a0 l1 (x5_1.set ((ji13) : Int).toNat (((rd x5_1 (ji13)) + ((t132) % 256)) % 256)) (wrap64 (x6_1 + 1))) = some r := H
                      have A16 := Aside0.mk A160
                      clear A160
                      obtain ⟨y133, hy133⟩ : ∃ y_ : List Int, y_ = (x5_1.set ((ji13) : Int).toNat (((rd x5_1 (ji13)) + ((t132) % 256)) % 256)) := ⟨_, rfl⟩
                      replace H : (catamaranref03_Made.l0 k1 a0 l1 y133 (wrap64 (x6_1 + 1))) = some r := by first | (rw [hy133]; with_reducible exact H) | (have H2_ := (Option.bind_some _ _).symm.trans H; rw [hy133]; with_reducible exact H2_) | (have H2_ := (Option.bind_some _ _).symm.trans H; with_reducible exact H2_) | with_reducible exact H | (rw [hy133]; exact H) | exact H
                      have Ny133 := Aside0.mk hy133
                      clear hy133
                      have H' := Aside0.mk H
                      clear H
                      have p130 : 0 ≤ (x6_1 : Int) := of_decide_eq_true (by first | (with_reducible assumption) | assumption)
                      have q130 : x6_1 < (l1.length : Int) := of_decide_eq_true (by first | (with_reducible assumption) | assumption)
                      obtain ⟨ad130, e130, hx130_0⟩ := Kd.at_bool HR1.out x6_1 p130 q130
                      (try rw [← Nbq11.out] at hx130_0)
                      cases e130
                      replace hx130_0 := (HB.out.cell (World.block_lt_of_cell? w _ hx130_0)).trans hx130_0
                      replace p130 := eq_true p130
                      replace q130 := eq_true q130
                      try go_wp2
                      have n0_ := Aside0.mk (Kd.R_drew HO_5.out)
                      have n1_ := Aside0.mk (below_drew1 HB.out)
                      clear HO_5
                      clear HB
                      have HO_5 := n0_
                      have HB := n1_
                      clear n0_ n1_
                      obtain ⟨Ao19, co19, eo19⟩ := Kd.R_slice HO_5.out
                      (first | subst eo19 | (injection eo19 with f1_ f2_ f3_; have f4_ := f1_.symm; have f5_ := f3_.symm; clear f1_ f2_ f3_; subst f4_; subst f5_))
                      have p131 : 0 ≤ ((ji13) : Int) := of_decide_eq_true (by first | (with_reducible assumption) | assumption)
                      have q131 : (ji13) < (x5_1.length : Int) := of_decide_eq_true (by first | (with_reducible assumption) | assumption)
                      obtain ⟨ad131, e131, hx131_0⟩ := Kd.at_int (Kd.R_reads' HO_5.out).2.2 (ji13) p131 q131
                      cases e131
                      replace p131 := eq_true p131
                      replace q131 := eq_true q131
                      refine start_ (n := 15) (S := fun w' => w'.cell? (ad131.add ((ji13)).toNat) = some (.int .u8 (rd x5_1 (ji13)))) (ds := [14]) #[false, false, false, false, false, false, false, false, false, false, false, false, false, false, false] (by kernel_rfl) rfl rfl (hx131_0) (fun hHeld => ?_); refine with_tabW catamaranref03_Made.tab6 catamaranref03_Made.bits6 (fun HT_ HW_ => ?_)
                      generalize wr.drew = w18 at HO_5 HB hx131_0 hHeld ⊢
                      refine pure_ (i := 0) (N := some 21) (v := ?_) (a' := ?_) #[true, false, false, false, false, false, false, false, false, false, false, false, false, false, false] rfl rfl (any_of HT_.out (by kernel_rfl)) (fun _ _ _ h => h) (Or.inl ⟨by rfl, ?_⟩) ?_ ?_
                      rotate_left
                      · intro w'
                        go_simp
                        with_reducible rfl
                      rotate_left
                      · simp only [Act.put, List.setIfInBounds_toArray, List.set_cons_zero, List.set_cons_succ, i64_w, i32_w]
                        rfl
                      refine pure_ (i := 1) (N := some 22) (v := ?_) (a' := ?_) #[true, true, false, false, false, false, false, false, false, false, false, false, false, false, false] rfl rfl (any_of HT_.out (by kernel_rfl)) (fun _ _ _ h => h) (Or.inl ⟨by rfl, ?_⟩) ?_ ?_
                      rotate_left
                      · intro w'
                        go_simp
                        with_reducible rfl
                      rotate_left
                      · simp only [Act.put, List.setIfInBounds_toArray, List.set_cons_zero, List.set_cons_succ, i64_w, i32_w]
                        rfl
                      refine pure_ (i := 2) (N := some 23) (v := ?_) (a' := ?_) #[true, true, true, false, false, false, false, false, false, false, false, false, false, false, false] rfl rfl (any_of HT_.out (by kernel_rfl)) (fun _ _ _ h => h) (Or.inl ⟨by rfl, ?_⟩) ?_ ?_
                      rotate_left
                      · intro w'
                        go_simp
                        with_reducible rfl
                      rotate_left
                      · simp only [Act.put, List.setIfInBounds_toArray, List.set_cons_zero, List.set_cons_succ, i64_w, i32_w]
                        rfl
                      refine pure_ (i := 3) (N := some 24) (v := ?_) (a' := ?_) #[true, true, true, true, false, false, false, false, false, false, false, false, false, false, false] rfl rfl (any_of HT_.out (by kernel_rfl)) (fun _ _ _ h => h) (Or.inl ⟨by rfl, ?_⟩) ?_ ?_
                      rotate_left
                      · intro w'
                        go_simp
                        with_reducible rfl
                      rotate_left
                      · simp only [Act.put, List.setIfInBounds_toArray, List.set_cons_zero, List.set_cons_succ, i64_w, i32_w]
                        rfl
                      refine pure_ (i := 4) (N := some 25) (v := ?_) (a' := ?_) #[true, true, true, true, true, false, false, false, false, false, false, false, false, false, false] rfl rfl (any_of HT_.out (by kernel_rfl)) (fun _ _ _ h => h) (Or.inl ⟨by rfl, ?_⟩) ?_ ?_
                      rotate_left
                      · intro w'
                        go_simp
                        with_reducible rfl
                      rotate_left
                      · simp only [Act.put, List.setIfInBounds_toArray, List.set_cons_zero, List.set_cons_succ, i64_w, i32_w]
                        rfl
                      refine pure_ (i := 5) (N := some 26) (v := ?_) (a' := ?_) #[true, true, true, true, true, true, false, false, false, false, false, false, false, false, false] rfl rfl (any_of HT_.out (by kernel_rfl)) (fun _ _ _ h => h) (Or.inl ⟨by rfl, ?_⟩) ?_ ?_
                      rotate_left
                      · intro w'
                        go_simp
                        with_reducible rfl
                      rotate_left
                      · simp only [Act.put, List.setIfInBounds_toArray, List.set_cons_zero, List.set_cons_succ, i64_w, i32_w]
                        rfl
                      refine pure_ (i := 6) (N := some 27) (v := ?_) (a' := ?_) #[true, true, true, true, true, true, true, false, false, false, false, false, false, false, false] rfl rfl (any_of HT_.out (by kernel_rfl)) (fun _ _ _ h => h) (Or.inl ⟨by rfl, ?_⟩) ?_ ?_
                      rotate_left
                      · intro w'
                        go_simp
                        with_reducible rfl
                      rotate_left
                      · simp only [Act.put, List.setIfInBounds_toArray, List.set_cons_zero, List.set_cons_succ, i64_w, i32_w]
                        rfl
                      refine pure_ (i := 8) (N := some 29) (v := ?_) (a' := ?_) #[true, true, true, true, true, true, true, false, true, false, false, false, false, false, false] rfl rfl (any_of HT_.out (by kernel_rfl)) (fun _ _ _ h => h) (Or.inl ⟨by rfl, ?_⟩) ?_ ?_
                      rotate_left
                      · intro w'
                        go_simp
                        with_reducible rfl
                      rotate_left
                      · simp only [Act.put, List.setIfInBounds_toArray, List.set_cons_zero, List.set_cons_succ, i64_w, i32_w]
                        rfl
                      refine pure_ (i := 9) (N := some 30) (v := ?_) (a' := ?_) #[true, true, true, true, true, true, true, false, true, true, false, false, false, false, false] rfl rfl (any_of HT_.out (by kernel_rfl)) (fun _ _ _ h => h) (Or.inl ⟨by rfl, ?_⟩) ?_ ?_
                      rotate_left
                      · intro w'
                        go_simp
                        with_reducible rfl
                      rotate_left
                      · simp only [Act.put, List.setIfInBounds_toArray, List.set_cons_zero, List.set_cons_succ, i64_w, i32_w]
                        rfl
                      refine take_ (i := 7) (N := some 28) (v := ?_) (a' := ?_) #[true, true, true, true, true, true, true, true, true, true, false, false, false, false, false] rfl rfl (take_ofW HT_.out HW_.out (by kernel_rfl)) (fun _ _ _ h => h) (Or.inl ⟨by rfl, ?_⟩) hHeld ?_ ?_
                      rotate_left
                      · intro w' s0
                        go_simp
                        with_reducible rfl
                      rotate_left
                      · simp only [Act.put, List.setIfInBounds_toArray, List.set_cons_zero, List.set_cons_succ, i64_w, i32_w]
                        rfl
                      refine one_ (i := 10) (N := some 31) #[true, true, true, true, true, true, true, true, true, true, true, false, false, false, false] rfl rfl (one_of HT_.out (by kernel_rfl)) (by decide) (fun K hK => ?_)
                      refine goes_ Try.func153 (by kernel_rfl) rfl #[.int .i64 (Int.tmod x6_1 8)] (by rfl) rfl rfl (by (try simp only [List.map_toArray, List.map_cons, List.map_nil]); first | done | rfl | (simp only [List.length_drop, List.length_take]; rfl)) ?_
                      with_reducible refine (catamaranref03_power.calls k1 (Int.tmod x6_1 8) t132 _ A16.out).mono ?_
                      rintro e w' ⟨rfl, ⟨nd, rfl⟩⟩
                      refine ⟨_, rfl, ?_⟩
                      have p17 : 0 ≤ ((ji13) : Int) := of_decide_eq_true (by first | (with_reducible assumption) | assumption)
                      have q17 : ((ji13) : Int) < ((x5_1.length : Int) : Int) := of_decide_eq_true (by first | (with_reducible assumption) | assumption)
                      obtain ⟨go17, co17, eo17, gb17, gl17, cl17, HG17⟩ := Kd.R_form HO_5.out (by omega)
                      (first | cases eo17 | (injection eo17 with ea_ en_ ec_; (first | subst ea_ | (injection ea_ with ea_; subst ea_)); subst ec_; clear en_))
                      have GB17 := Aside0.mk gb17
                      have GG17 := Aside0.mk HG17
                      clear gb17 gl17 HG17
                      (first | simp only [add_plain] at hx131_0 | skip)
                      obtain ⟨hx17_0, hf17_0⟩ := Kd.R_celln 0 HO_5.out ((ji13) : Int) p17 q17
                      replace p17 := eq_true p17
                      replace q17 := eq_true q17
                      have HP20 := Kd.R_putn HO_5.out ((ji13) : Int) (((rd x5_1 (ji13)) + ((t132) % 256)) % 256)
                      rw [← Ny133.out] at HP20
                      have HQ20 := Aside0.mk HP20
                      clear HP20
                      refine hK.out _ _ (hHeld) (fun hHeld => ?_)
                      clear hK K
                      refine norm_ (a' := ?_) ?_ ?_
                      rotate_left
                      · show Act.put _ (some 31) _ = _
                        simp only [Act.put, List.setIfInBounds_toArray, List.set_cons_zero, List.set_cons_succ, i64_w, i32_w]
                        rfl
                      refine pure_ (i := 11) (N := some 32) (v := ?_) (a' := ?_) #[true, true, true, true, true, true, true, true, true, true, true, true, false, false, false] rfl rfl (any_of HT_.out (by kernel_rfl)) (fun _ _ _ h => h) (Or.inl ⟨by rfl, ?_⟩) ?_ ?_
                      rotate_left
                      · intro w'
                        go_simp
                        with_reducible rfl
                      rotate_left
                      · simp only [Act.put, List.setIfInBounds_toArray, List.set_cons_zero, List.set_cons_succ, i64_w, i32_w]
                        rfl
                      refine pure_ (i := 12) (N := some 33) (v := ?_) (a' := ?_) #[true, true, true, true, true, true, true, true, true, true, true, true, true, false, false] rfl rfl (any_of HT_.out (by kernel_rfl)) (fun _ _ _ h => h) (Or.inl ⟨by rfl, ?_⟩) ?_ ?_
                      rotate_left
                      · intro w'
                        go_simp
                        with_reducible rfl
                      rotate_left
                      · simp only [Act.put, List.setIfInBounds_toArray, List.set_cons_zero, List.set_cons_succ, i64_w, i32_w]
                        rfl
                      refine pure_ (i := 13) (N := some 34) (v := ?_) (a' := ?_) #[true, true, true, true, true, true, true, true, true, true, true, true, true, true, false] rfl rfl (any_of HT_.out (by kernel_rfl)) (fun _ _ _ h => h) (Or.inl ⟨by rfl, ?_⟩) ?_ ?_
                      rotate_left
                      · intro w'
                        go_simp
                        with_reducible rfl
                      rotate_left
                      · simp only [Act.put, List.setIfInBounds_toArray, List.set_cons_zero, List.set_cons_succ, i64_w, i32_w]
                        rfl
                      refine last_ (i := 14) (N := none) #[true, true, true, true, true, true, true, true, true, true, true, true, true, true, true] rfl rfl (one_of HT_.out (by kernel_rfl)) (by decide) (fun K hK => ?_)
                      refine skip_ (w1 := ?_) (by rfl) rfl ?_ ?_
                      rotate_left
                      · go_simp
                        rfl
                      refine hK.out _ _ ?_
                      clear hK K
                      refine done_ (done_of HT_.out (by kernel_rfl)) ?_
                      try go_wp2
                      go_roundg k1
                      case measure => have := HK1.out; omega
                      case rel => exact ⟨(y133), (wrap64 (x6_1 + 1)), (by first | rfl | (simp; done) | (simp [*]; done)), H', ⟨by have := HK1.out; omega⟩, ⟨by (with_reducible repeat (first | apply Kd.R_alloc | apply Kd.R_drewN | apply Kd.R_drew)); exact HQ20.out⟩, ⟨by repeat (first | (with_reducible first | exact HB.out | apply below_alloc | apply pw_below_drewN | apply below_drew1 | refine below_set ?_ GB17.out) | exact HB.out)⟩⟩
                    · rw [if_neg c15] at H
                      exact absurd H (by simp)
                  · rw [if_neg c14] at H
                    exact absurd H (by simp)
                · replace c12 := Bool.eq_false_iff.mpr c12
                  subst c12
                  have H1 : (catamaranref03_Made.l0 k1 a0 l1 x5_1 (wrap64 (x6_1 + 1))) = some r := by rw [if_neg (show ¬ (false = true) by decide)] at H; exact H
                  clear H
                  have H := H1
                  clear H1
                  have H' := Aside0.mk H
                  clear H
                  have p130 : 0 ≤ (x6_1 : Int) := of_decide_eq_true (by first | (with_reducible assumption) | assumption)
                  have q130 : x6_1 < (l1.length : Int) := of_decide_eq_true (by first | (with_reducible assumption) | assumption)
                  obtain ⟨ad130, e130, hx130_0⟩ := Kd.at_bool HR1.out x6_1 p130 q130
                  (try rw [← Nbq11.out] at hx130_0)
                  cases e130
                  replace hx130_0 := (HB.out.cell (World.block_lt_of_cell? w _ hx130_0)).trans hx130_0
                  replace p130 := eq_true p130
                  replace q130 := eq_true q130
                  go_wp2
                  go_roundg k1
                  case measure => have := HK1.out; omega
                  case rel => exact ⟨(x5_1), (wrap64 (x6_1 + 1)), (by first | rfl | (simp; done) | (simp [*]; done)), H', ⟨by have := HK1.out; omega⟩, ⟨by (with_reducible repeat (first | apply Kd.R_alloc | apply Kd.R_drewN | apply Kd.R_drew)); exact HO_5.out⟩, ⟨by repeat (first | (with_reducible first | exact HB.out | apply below_alloc | apply pw_below_drewN | apply below_drew1) | exact HB.out)⟩⟩
              · rw [if_neg c10] at H
                exact absurd H (by simp)
            · rw [if_neg c9] at H
              exact absurd H (by simp)
          · rw [if_neg c8] at H
            have c8b0 : decide (x6_1 < a0) = false := decide_eq_false c8
            clear c8
            obtain rfl := Option.some.inj H
            go_wp2
            go_ret
            exact ⟨_, by first | rfl | (simp [errW_none, errW_some] <;> rfl) | (simp only [← hji3]; first | rfl | (simp [errW_none, errW_some] <;> rfl)) | (simp [*, errW_none, errW_some] <;> rfl), by (with_reducible repeat (first | apply Kd.R_alloc | apply Kd.R_drewN | apply Kd.R_drew)); exact HO_5.out, by repeat (first | (with_reducible first | exact HB.out | apply below_alloc | apply pw_below_drewN | apply below_drew1) | exact HB.out)⟩
    · rw [if_neg c5] at H
      exact absurd H (by simp)
  · rw [if_neg c4] at H
    exact absurd H (by simp)
def catamaranref03_Full.l0 : Nat → Int → List Bool → Int → Option (List Int)
  | 0, _, _, _ => none
  | k + 1, x0, x3, x4 => if x4 < x0 then (if 0 ≤ x4 then (if x4 < (x3.length : Int) then (catamaranref03_Full.l0 k x0 (x3.set (x4 : Int).toNat true) (wrap64 (x4 + 1))) else (none)) else (none)) else ((catamaranref03_Made.f k x0 x3).bind fun t138 => (some t138))
def catamaranref03_Full.f (k : Nat) (a0 : Int) : Option (List Int) := if 0 ≤ a0 then (if (a0 : Int).toNat ≤ 281474976710656 then (catamaranref03_Full.l0 k a0 (List.replicate (a0 : Int).toNat false) 0) else (none)) else (none)
set_option maxHeartbeats 8000000 in
set_option maxRecDepth 100000 in
theorem catamaranref03_Full.calls (k : Nat) (a0 : Int) (r : List Int) (w : World) (h : catamaranref03_Full.f k a0 = some r) :
    Calls Try.prog 79 #[.int .i64 a0] w fun e w' => ∃ v0_ : Value, e = .returned (v0_) ∧ Kd.R (Kd.int .u8) 5 w' w.heap.size (fun _ => True) v0_ r ∧ Below w.heap.size w w' := by
  have HB := Aside0.mk (Below.refl w.heap.size w)
  have H : (if 0 ≤ a0 then (if (a0 : Int).toNat ≤ 281474976710656 then (catamaranref03_Full.l0 k a0 (List.replicate (a0 : Int).toNat false) 0) else (none)) else (none)) = some r := h
  clear h
  by_cases c2 : 0 ≤ a0
  · rw [if_pos c2] at H
    have c2b0 := eq_true c2
    have c2b1 : decide (0 ≤ a0) = true := decide_eq_true c2
    clear c2
    by_cases c3 : (a0 : Int).toNat ≤ 281474976710656
    · rw [if_pos c3] at H
      have c3b0 := eq_true c3
      have c3b1 : decide ((a0 : Int).toNat ≤ 281474976710656) = true := decide_eq_true c3
      clear c3
      obtain ⟨y134, hy134⟩ : ∃ y_ : List Bool, y_ = (List.replicate (a0 : Int).toNat false) := ⟨_, rfl⟩
      replace H : (catamaranref03_Full.l0 k a0 y134 0) = some r := by first | (rw [hy134]; with_reducible exact H) | (have H2_ := (Option.bind_some _ _).symm.trans H; rw [hy134]; with_reducible exact H2_) | (have H2_ := (Option.bind_some _ _).symm.trans H; with_reducible exact H2_) | with_reducible exact H | (rw [hy134]; exact H) | exact H
      have Ny134 := Aside0.mk hy134
      clear hy134
      have H' := Aside0.mk H
      clear H
      go_enter Try.func79, Try.ntmps79
      go_wp2_with (first | ((with_reducible refine gate_dst (N := 6) rfl ?_); refine Kd.R_make Kd.bool _ 4 rfl (N := 6) rfl 213 _ _ rfl a0 rfl rfl Try.underlying213 (.bool false) 1 info4 rfl (by decide) (by omega) false (ok := fun _ => True) (okp := fun _ => True) rfl (fun _ hk => hk) trivial (of_decide_eq_true (by first | (with_reducible assumption) | assumption)) (Nat.le_trans (Nat.mul_le_mul_right _ (of_decide_eq_true (by first | (with_reducible assumption) | assumption) : a0.toNat ≤ 281474976710656)) (by omega)) (Below.refl _ _) (Nat.le_refl _) ?_; intro v135 w4 ho5 hb hg_ hnew_; clear hg_ hnew_; (first | rw [← Ny134.out] at ho5 | (simp only [Int.reduceToNat] at ho5; rw [← Ny134.out] at ho5)); have n0_ := Aside0.mk (Kd.R_lower ho5 (below_size (by repeat (first | (with_reducible first | exact HB.out | apply below_alloc | apply pw_below_drewN | apply below_drew1) | exact HB.out)))); have n1_ := Aside0.mk (below_step (by repeat (first | (with_reducible first | exact HB.out | apply below_alloc | apply pw_below_drewN | apply below_drew1) | exact HB.out)) hb); clear HB; have HO136 := n0_; have HB := n1_; clear n0_ n1_; clear hb ho5))
      go_loopg [4] k (fun kq v4 w' => ∃ (x3_1 : List Bool) (x4_1 : Int), v4 = .int .i64 x4_1 ∧ Aside0 (catamaranref03_Full.l0 kq a0 x3_1 x4_1 = some r) ∧ Aside0 (kq ≤ k) ∧ Aside0 (Kd.R Kd.bool 4 w' w.heap.size (fun _ => True) v135 x3_1) ∧ Aside0 (Below w.heap.size w w'))
      case atStart => exact ⟨(y134), (0), (by first | rfl | (simp; done) | (simp [*]; done)), H', ⟨Nat.le_refl _⟩, ⟨by (with_reducible repeat (first | apply Kd.R_alloc | apply Kd.R_drewN | apply Kd.R_drew)); exact HO136.out⟩, ⟨by repeat (first | (with_reducible first | exact HB.out | apply below_alloc | apply pw_below_drewN | apply below_drew1) | exact HB.out)⟩⟩
      case round =>
        clear H'
        try clear c2
        try clear c2b0
        try clear c2b1
        try clear p2
        try clear c3
        try clear c3b0
        try clear c3b1
        obtain ⟨x3_1, x4_1, rfl, HA, HK1, HO_3, HB⟩ := hrel
        cases gk with
        | zero => exact absurd HA.out (by simp [catamaranref03_Full.l0])
        | succ k1 =>
          have H := HA.out
          clear HA
          simp only [catamaranref03_Full.l0] at H
          by_cases c6 : x4_1 < a0
          · rw [if_pos c6] at H
            have c6b0 : decide (x4_1 < a0) = true := decide_eq_true c6
            clear c6
            by_cases c7 : 0 ≤ x4_1
            · rw [if_pos c7] at H
              have c7b0 : decide (0 ≤ x4_1) = true := decide_eq_true c7
              clear c7
              by_cases c8 : x4_1 < (x3_1.length : Int)
              · rw [if_pos c8] at H
                have c8b0 : decide (x4_1 < (x3_1.length : Int)) = true := decide_eq_true c8
                clear c8
                obtain ⟨y137, hy137⟩ : ∃ y_ : List Bool, y_ = (x3_1.set (x4_1 : Int).toNat true) := ⟨_, rfl⟩
                replace H : (catamaranref03_Full.l0 k1 a0 y137 (wrap64 (x4_1 + 1))) = some r := by first | (rw [hy137]; with_reducible exact H) | (have H2_ := (Option.bind_some _ _).symm.trans H; rw [hy137]; with_reducible exact H2_) | (have H2_ := (Option.bind_some _ _).symm.trans H; with_reducible exact H2_) | with_reducible exact H | (rw [hy137]; exact H) | exact H
                have Ny137 := Aside0.mk hy137
                clear hy137
                have H' := Aside0.mk H
                clear H
                have p9 : 0 ≤ (x4_1 : Int) := of_decide_eq_true (by first | (with_reducible assumption) | assumption)
                have q9 : (x4_1 : Int) < ((x3_1.length : Int) : Int) := of_decide_eq_true (by first | (with_reducible assumption) | assumption)
                obtain ⟨go9, co9, eo9, gb9, gl9, cl9, HG9⟩ := Kd.R_form HO_3.out (by omega)
                (first | cases eo9 | (injection eo9 with ea_ en_ ec_; (first | subst ea_ | (injection ea_ with ea_; subst ea_)); subst ec_; clear en_))
                have GB9 := Aside0.mk gb9
                have GG9 := Aside0.mk HG9
                clear gb9 gl9 HG9
                obtain ⟨hx9_0, hf9_0⟩ := Kd.R_celln false HO_3.out (x4_1 : Int) p9 q9
                replace p9 := eq_true p9
                replace q9 := eq_true q9
                have HP10 := Kd.R_putg HO_3.out (x4_1 : Int) true
                go_wp2_with (first | ((with_reducible refine gate_store (t := 4) (p := 14) rfl ?_); refine store_event (t := 4) (p := 14) (v := ?vo_w11) (w1 := (wr.setCell ⟨go9, (x4_1 : Int).toNat, none⟩ (.bool true))) ?hg ?ho ?hn ?hr ?_; (case ho => rfl); (case hg => rfl); (case hn => rfl); (case hr => first | (go_simp; done) | (go_simp; rfl)); intro w11 hw; have hg : wr.grownBy w11 (some go9) := (by rw [hw]; exact HP10.2); have hp_ : Kd.R Kd.bool 4 w11 w.heap.size (fun _ => True) (.slice (some ⟨go9, 0, none⟩) x3_1.length co9) y137 := (by rw [hw, Ny137.out]; exact HP10.1); clear HP10; have n0_ := Aside0.mk (hp_); have n1_ := Aside0.mk ((by rw [hw]; exact below_set (HB.out) GB9.out : Below w.heap.size w w11)); clear HO_3; clear HB; have HO_3 := n0_; have HB := n1_; clear n0_ n1_; clear hg hw hp_))
                go_roundg k1
                case measure => have := HK1.out; omega
                case rel => exact ⟨(y137), (wrap64 (x4_1 + 1)), (by first | rfl | (simp; done) | (simp [*]; done)), H', ⟨by have := HK1.out; omega⟩, ⟨by (with_reducible repeat (first | apply Kd.R_alloc | apply Kd.R_drewN | apply Kd.R_drew)); exact HO_3.out⟩, ⟨by repeat (first | (with_reducible first | exact HB.out | apply below_alloc | apply pw_below_drewN | apply below_drew1) | exact HB.out)⟩⟩
              · rw [if_neg c8] at H
                exact absurd H (by simp)
            · rw [if_neg c7] at H
              exact absurd H (by simp)
          · rw [if_neg c6] at H
            have c6b0 : decide (x4_1 < a0) = false := decide_eq_false c6
            clear c6
            replace H := Option.bind_eq_some_iff.mp H
            obtain ⟨t138, A120, H⟩ := H
            replace H : (some t138) = some r := H
            have A12 := Aside0.mk A120
            clear A120
            obtain rfl := Option.some.inj H
            obtain ⟨Ao13, co13, eo13⟩ := Kd.R_slice HO_3.out
            subst eo13
            go_wp2_with (first | ((with_reducible refine gate_callee (f := 146) rfl ?_); refine goesL_ (some 17) rfl rfl Try.func146 (by kernel_rfl) rfl #[.int .i64 a0, .slice Ao13 x3_1.length co13] rfl (by (try simp only [List.map_toArray, List.map_cons, List.map_nil]); first | done | rfl | (simp only [List.length_drop, List.length_take]; rfl)) ?_; (with_reducible refine (catamaranref03_Made.calls k1 a0 _ _ x3_1 t138 _ ?side1 ?side2 A12.out).mono ?_); (case side1 => repeat (first | exact (Kd.R_reads' HO_3.out).2.2 | (with_reducible refine Kd.C_alloc ?_ _) | (with_reducible refine Kd.C_drewN ?_ _) | (with_reducible refine Kd.C_drew ?_))); (case side2 => exact (Kd.R_reads' HO_3.out).2.1); rintro e w14 ⟨v139, rfl, ho0, hb⟩; refine ⟨_, rfl, ?_⟩; have n0_ := Aside0.mk (Kd.R_below (by (with_reducible repeat (first | apply Kd.R_alloc | apply Kd.R_drewN | apply Kd.R_drew)); exact HO_3.out) hb); have n1_ := Aside0.mk (Kd.R_lower ho0 (below_size (by repeat (first | (with_reducible first | exact HB.out | apply below_alloc | apply pw_below_drewN | apply below_drew1) | exact HB.out)))); have n2_ := Aside0.mk (below_step (by repeat (first | (with_reducible first | exact HB.out | apply below_alloc | apply pw_below_drewN | apply below_drew1) | exact HB.out)) hb); clear HO_3; clear HB; have HO_3 := n0_; have HO140 := n1_; have HB := n2_; clear n0_ n1_ n2_; (try clear hb); (try clear hb2); (try clear hk); (try clear hi); (try clear ho0)))
            go_ret
            exact ⟨_, by first | rfl | (simp [errW_none, errW_some] <;> rfl) | (simp [*, errW_none, errW_some] <;> rfl), by (with_reducible repeat (first | apply Kd.R_alloc | apply Kd.R_drewN | apply Kd.R_drew)); exact HO140.out, by repeat (first | (with_reducible first | exact HB.out | apply below_alloc | apply pw_below_drewN | apply below_drew1) | exact HB.out)⟩
    · rw [if_neg c3] at H
      exact absurd H (by simp)
  · rw [if_neg c2] at H
    exact absurd H (by simp)
def catamaranref03_Less.l0 : Nat → Int → List Int → List Int → List Bool → Int → Option (List Int)
  | 0, _, _, _, _, _ => none
  | k + 1, x0, x1, x2, x7, x8 => if x8 < x0 then ((catamaranref03_In.f k x1 x8).bind fun t141 => (if t141 = true then ((catamaranref03_In.f k x2 x8).bind fun t142 => (if x7.length < 140737488355328 then (catamaranref03_Less.l0 k x0 x1 x2 (x7 ++ [!t142]) (wrap64 (x8 + 1))) else (none))) else (if x7.length < 140737488355328 then (catamaranref03_Less.l0 k x0 x1 x2 (x7 ++ [false]) (wrap64 (x8 + 1))) else (none)))) else ((catamaranref03_Made.f k x0 x7).bind fun t149 => (some t149))
def catamaranref03_Less.f (k : Nat) (a0 : Int) (l1 : List Int) (l2 : List Int) : Option (List Int) := catamaranref03_Less.l0 k a0 l1 l2 ([] : List Bool) 0
set_option maxHeartbeats 8000000 in
set_option maxRecDepth 100000 in
theorem catamaranref03_Less.calls (k : Nat) (a0 : Int) (A1 : Option Addr) (c1 : Nat) (l1 : List Int) (A2 : Option Addr) (c2 : Nat) (l2 : List Int) (r : List Int) (w : World) (hr1 : Kd.C (Kd.int .u8) w A1 l1.length l1) (hc1 : l1.length ≤ c1) (hr2 : Kd.C (Kd.int .u8) w A2 l2.length l2) (hc2 : l2.length ≤ c2) (h : catamaranref03_Less.f k a0 l1 l2 = some r) :
    Calls Try.prog 191 #[.int .i64 a0, .slice A1 l1.length c1, .slice A2 l2.length c2] w fun e w' => ∃ v0_ : Value, e = .returned (v0_) ∧ Kd.R (Kd.int .u8) 5 w' w.heap.size (fun _ => True) v0_ r ∧ Below w.heap.size w w' := by
  have HR1 := Aside0.mk hr1
  have HC1 := Aside0.mk hc1
  clear hr1 hc1
  have HR2 := Aside0.mk hr2
  have HC2 := Aside0.mk hc2
  clear hr2 hc2
  have HB := Aside0.mk (Below.refl w.heap.size w)
  have H : (catamaranref03_Less.l0 k a0 l1 l2 ([] : List Bool) 0) = some r := h
  clear h
  have H' := Aside0.mk H
  clear H
  go_enter Try.func191, Try.ntmps191
  go_wp2
  go_loopg [7, 8] k (fun kq v7 v8 w' => ∃ (x7_1 : List Bool) (x8_1 : Int), v8 = .int .i64 x8_1 ∧ Aside0 (catamaranref03_Less.l0 kq a0 l1 l2 x7_1 x8_1 = some r) ∧ Aside0 (kq ≤ k) ∧ Aside0 (Kd.R Kd.bool 4 w' w.heap.size (fun _ => True) v7 x7_1) ∧ Aside0 (Below w.heap.size w w'))
  case atStart => exact ⟨(([] : List Bool)), (0), (by first | rfl | (simp; done) | (simp [*]; done)), H', ⟨Nat.le_refl _⟩, ⟨by first | exact Kd.R_nil _ _ _ _ _ | exact Kd.N_nil _ _ _ _ _ | exact Kd.V_nil _ _ _ _ _ | exact Kd.Q_nil _ _ _ _ _ | exact Kd.S_nil _ _ _ _ _⟩, ⟨by repeat (first | (with_reducible first | exact HB.out | apply below_alloc | apply pw_below_drewN | apply below_drew1) | exact HB.out)⟩⟩
  case round =>
    clear H'
    try clear c1
    try clear c2
    try clear p2
    obtain ⟨x7_1, x8_1, rfl, HA, HK1, HO_7, HB⟩ := hrel
    cases gk with
    | zero => exact absurd HA.out (by simp [catamaranref03_Less.l0])
    | succ k1 =>
      have H := HA.out
      clear HA
      simp only [catamaranref03_Less.l0] at H
      by_cases c4 : x8_1 < a0
      · rw [if_pos c4] at H
        have c4b0 : decide (x8_1 < a0) = true := decide_eq_true c4
        clear c4
        replace H := Option.bind_eq_some_iff.mp H
        obtain ⟨t141, A50, H⟩ := H
        replace H : (if t141 = true then ((catamaranref03_In.f k1 l2 x8_1).bind fun t142 => (if x7_1.length < 140737488355328 then (catamaranref03_Less.l0 k1 a0 l1 l2 (x7_1 ++ [!t142]) (wrap64 (x8_1 + 1))) else (none))) else (if x7_1.length < 140737488355328 then (catamaranref03_Less.l0 k1 a0 l1 l2 (x7_1 ++ [false]) (wrap64 (x8_1 + 1))) else (none))) = some r := H
        have A5 := Aside0.mk A50
        clear A50
        by_cases c6 : t141 = true
        · subst c6
          have H1 : ((catamaranref03_In.f k1 l2 x8_1).bind fun t142 => (if x7_1.length < 140737488355328 then (catamaranref03_Less.l0 k1 a0 l1 l2 (x7_1 ++ [!t142]) (wrap64 (x8_1 + 1))) else (none))) = some r := by rw [if_pos rfl] at H; exact H
          clear H
          have H := H1
          clear H1
          replace H := Option.bind_eq_some_iff.mp H
          obtain ⟨t142, A70, H⟩ := H
          replace H : (if x7_1.length < 140737488355328 then (catamaranref03_Less.l0 k1 a0 l1 l2 (x7_1 ++ [!t142]) (wrap64 (x8_1 + 1))) else (none)) = some r := H
          have A7 := Aside0.mk A70
          clear A70
          by_cases c8 : x7_1.length < 140737488355328
          · rw [if_pos c8] at H
            have LMc8 := Aside0.mk c8
            clear c8
            obtain ⟨y143, hy143⟩ : ∃ y_ : List Bool, y_ = (x7_1 ++ [!t142]) := ⟨_, rfl⟩
            replace H : (catamaranref03_Less.l0 k1 a0 l1 l2 y143 (wrap64 (x8_1 + 1))) = some r := by first | (rw [hy143]; with_reducible exact H) | (have H2_ := (Option.bind_some _ _).symm.trans H; rw [hy143]; with_reducible exact H2_) | (have H2_ := (Option.bind_some _ _).symm.trans H; with_reducible exact H2_) | with_reducible exact H | (rw [hy143]; exact H) | exact H
            have Ny143 := Aside0.mk hy143
            clear hy143
            have H' := Aside0.mk H
            clear H
            go_wp2_with (first | ((with_reducible refine gate_callee (f := 88) rfl ?_); refine goesL_ (some 17) rfl rfl Try.func88 (by kernel_rfl) rfl #[.slice A1 l1.length c1, .int .i64 x8_1] rfl (by (try simp only [List.map_toArray, List.map_cons, List.map_nil]); first | done | rfl | (simp only [List.length_drop, List.length_take]; rfl)) ?_; (with_reducible refine (catamaranref03_In.calls k1 _ _ l1 x8_1 true _ ?side1 ?side2 A5.out).mono ?_); (case side1 => repeat (first | exact (Kd.C_below HR1.out HB.out) | (with_reducible refine Kd.C_alloc ?_ _) | (with_reducible refine Kd.C_drewN ?_ _) | (with_reducible refine Kd.C_drew ?_))); (case side2 => exact HC1.out); rintro e w' ⟨rfl, ⟨nd, rfl⟩⟩; refine ⟨_, rfl, ?_⟩) | (go_at_call 88; (with_reducible refine (catamaranref03_In.calls k1 _ _ l2 x8_1 t142 _ ?side1 ?side2 A7.out).mono ?_); (case side1 => repeat (first | exact (Kd.C_below HR2.out (by repeat (first | (with_reducible first | exact HB.out | apply below_alloc | apply pw_below_drewN | apply below_drew1) | exact HB.out))) | (with_reducible refine Kd.C_alloc ?_ _) | (with_reducible refine Kd.C_drewN ?_ _) | (with_reducible refine Kd.C_drew ?_))); (case side2 => exact HC2.out); rintro e w' ⟨rfl, ⟨nd, rfl⟩⟩) | ((with_reducible refine gate_builtin (b := .append) (xs := #[.tmp 14, .tmp 24]) rfl ?_); at_builtin; refine Kd.R_append Kd.bool (w0 := w) w.heap.size rfl (.tmp 14) (.tmp 24) 213 4 (.bool false) 1 rfl Try.underlying213 info4 rfl (by decide) (by omega) u7 x7_1 (!t142) [.bool (!t142)] (fun _ => True) (fun _ => False) rfl rfl ?aP (fun _ hk => hk.elim) ?aF ?aO ?aB ?aS ?aL ?_; (case aP => exact rfl); (case aB => exact (by repeat (first | (with_reducible first | exact HB.out | apply below_alloc | apply pw_below_drewN | apply below_drew1) | exact HB.out))); (case aF => exact (fun _ _ => trivial)); (case aO => exact (by (with_reducible repeat (first | apply Kd.R_alloc | apply Kd.R_drewN | apply Kd.R_drew)); exact HO_7.out)); (case aS => exact (below_size (by repeat (first | (with_reducible first | exact HB.out | apply below_alloc | apply pw_below_drewN | apply below_drew1) | exact HB.out)))); (case aL => have := LMc8.out; omega); intro v144 w9 ho hb hg hat; rw [← Ny143.out] at ho; have n0_ := Aside0.mk (hb); have n1_ := Aside0.mk (ho); clear HB; clear HO_7; have HB := n0_; have HO145 := n1_; clear n0_ n1_; clear ho hb hg hat))
            go_roundg k1
            case measure => have := HK1.out; omega
            case rel => exact ⟨(y143), (wrap64 (x8_1 + 1)), (by first | rfl | (simp; done) | (simp [*]; done)), H', ⟨by have := HK1.out; omega⟩, ⟨by (with_reducible repeat (first | apply Kd.R_alloc | apply Kd.R_drewN | apply Kd.R_drew)); exact HO145.out⟩, ⟨by repeat (first | (with_reducible first | exact HB.out | apply below_alloc | apply pw_below_drewN | apply below_drew1) | exact HB.out)⟩⟩
          · rw [if_neg c8] at H
            exact absurd H (by simp)
        · replace c6 := Bool.eq_false_iff.mpr c6
          subst c6
          have H1 : (if x7_1.length < 140737488355328 then (catamaranref03_Less.l0 k1 a0 l1 l2 (x7_1 ++ [false]) (wrap64 (x8_1 + 1))) else (none)) = some r := by rw [if_neg (show ¬ (false = true) by decide)] at H; exact H
          clear H
          have H := H1
          clear H1
          by_cases c10 : x7_1.length < 140737488355328
          · rw [if_pos c10] at H
            have LMc10 := Aside0.mk c10
            clear c10
            obtain ⟨y146, hy146⟩ : ∃ y_ : List Bool, y_ = (x7_1 ++ [false]) := ⟨_, rfl⟩
            replace H : (catamaranref03_Less.l0 k1 a0 l1 l2 y146 (wrap64 (x8_1 + 1))) = some r := by first | (rw [hy146]; with_reducible exact H) | (have H2_ := (Option.bind_some _ _).symm.trans H; rw [hy146]; with_reducible exact H2_) | (have H2_ := (Option.bind_some _ _).symm.trans H; with_reducible exact H2_) | with_reducible exact H | (rw [hy146]; exact H) | exact H
            have Ny146 := Aside0.mk hy146
            clear hy146
            have H' := Aside0.mk H
            clear H
            go_wp2_with (first | ((with_reducible refine gate_callee (f := 88) rfl ?_); refine goesL_ (some 17) rfl rfl Try.func88 (by kernel_rfl) rfl #[.slice A1 l1.length c1, .int .i64 x8_1] rfl (by (try simp only [List.map_toArray, List.map_cons, List.map_nil]); first | done | rfl | (simp only [List.length_drop, List.length_take]; rfl)) ?_; (with_reducible refine (catamaranref03_In.calls k1 _ _ l1 x8_1 false _ ?side1 ?side2 A5.out).mono ?_); (case side1 => repeat (first | exact (Kd.C_below HR1.out HB.out) | (with_reducible refine Kd.C_alloc ?_ _) | (with_reducible refine Kd.C_drewN ?_ _) | (with_reducible refine Kd.C_drew ?_))); (case side2 => exact HC1.out); rintro e w' ⟨rfl, ⟨nd, rfl⟩⟩; refine ⟨_, rfl, ?_⟩) | ((with_reducible refine gate_builtin (b := .append) (xs := #[.tmp 14, .tmp 24]) rfl ?_); at_builtin; refine Kd.R_append Kd.bool (w0 := w) w.heap.size rfl (.tmp 14) (.tmp 24) 213 4 (.bool false) 1 rfl Try.underlying213 info4 rfl (by decide) (by omega) u7 x7_1 false [.bool false] (fun _ => True) (fun _ => False) rfl rfl ?aP (fun _ hk => hk.elim) ?aF ?aO ?aB ?aS ?aL ?_; (case aP => exact rfl); (case aB => exact (by repeat (first | (with_reducible first | exact HB.out | apply below_alloc | apply pw_below_drewN | apply below_drew1) | exact HB.out))); (case aF => exact (fun _ _ => trivial)); (case aO => exact (by (with_reducible repeat (first | apply Kd.R_alloc | apply Kd.R_drewN | apply Kd.R_drew)); exact HO_7.out)); (case aS => exact (below_size (by repeat (first | (with_reducible first | exact HB.out | apply below_alloc | apply pw_below_drewN | apply below_drew1) | exact HB.out)))); (case aL => have := LMc10.out; omega); intro v147 w11 ho hb hg hat; rw [← Ny146.out] at ho; have n0_ := Aside0.mk (hb); have n1_ := Aside0.mk (ho); clear HB; clear HO_7; have HB := n0_; have HO148 := n1_; clear n0_ n1_; clear ho hb hg hat))
            go_roundg k1
            case measure => have := HK1.out; omega
            case rel => exact ⟨(y146), (wrap64 (x8_1 + 1)), (by first | rfl | (simp; done) | (simp [*]; done)), H', ⟨by have := HK1.out; omega⟩, ⟨by (with_reducible repeat (first | apply Kd.R_alloc | apply Kd.R_drewN | apply Kd.R_drew)); exact HO148.out⟩, ⟨by repeat (first | (with_reducible first | exact HB.out | apply below_alloc | apply pw_below_drewN | apply below_drew1) | exact HB.out)⟩⟩
          · rw [if_neg c10] at H
            exact absurd H (by simp)
      · rw [if_neg c4] at H
        have c4b0 : decide (x8_1 < a0) = false := decide_eq_false c4
        clear c4
        replace H := Option.bind_eq_some_iff.mp H
        obtain ⟨t149, A120, H⟩ := H
        replace H : (some t149) = some r := H
        have A12 := Aside0.mk A120
        clear A120
        obtain rfl := Option.some.inj H
        obtain ⟨Ao13, co13, eo13⟩ := Kd.R_slice HO_7.out
        subst eo13
        go_wp2_with (first | ((with_reducible refine gate_callee (f := 146) rfl ?_); refine goesL_ (some 28) rfl rfl Try.func146 (by kernel_rfl) rfl #[.int .i64 a0, .slice Ao13 x7_1.length co13] rfl (by (try simp only [List.map_toArray, List.map_cons, List.map_nil]); first | done | rfl | (simp only [List.length_drop, List.length_take]; rfl)) ?_; (with_reducible refine (catamaranref03_Made.calls k1 a0 _ _ x7_1 t149 _ ?side1 ?side2 A12.out).mono ?_); (case side1 => repeat (first | exact (Kd.R_reads' HO_7.out).2.2 | (with_reducible refine Kd.C_alloc ?_ _) | (with_reducible refine Kd.C_drewN ?_ _) | (with_reducible refine Kd.C_drew ?_))); (case side2 => exact (Kd.R_reads' HO_7.out).2.1); rintro e w14 ⟨v150, rfl, ho0, hb⟩; refine ⟨_, rfl, ?_⟩; have n0_ := Aside0.mk (Kd.R_below (by (with_reducible repeat (first | apply Kd.R_alloc | apply Kd.R_drewN | apply Kd.R_drew)); exact HO_7.out) hb); have n1_ := Aside0.mk (Kd.R_lower ho0 (below_size (by repeat (first | (with_reducible first | exact HB.out | apply below_alloc | apply pw_below_drewN | apply below_drew1) | exact HB.out)))); have n2_ := Aside0.mk (below_step (by repeat (first | (with_reducible first | exact HB.out | apply below_alloc | apply pw_below_drewN | apply below_drew1) | exact HB.out)) hb); clear HO_7; clear HB; have HO_7 := n0_; have HO151 := n1_; have HB := n2_; clear n0_ n1_ n2_; (try clear hb); (try clear hb2); (try clear hk); (try clear hi); (try clear ho0)))
        go_ret
        exact ⟨_, by first | rfl | (simp [errW_none, errW_some] <;> rfl) | (simp [*, errW_none, errW_some] <;> rfl), by (with_reducible repeat (first | apply Kd.R_alloc | apply Kd.R_drewN | apply Kd.R_drew)); exact HO151.out, by repeat (first | (with_reducible first | exact HB.out | apply below_alloc | apply pw_below_drewN | apply below_drew1) | exact HB.out)⟩
end Go.Proofs.Ytpbnppeodoflcaa.PR3
end
section
namespace Go.Proofs.Ytpbnppeodoflcaa.E
open Go.RowKit Go.Proofs.YtpbnppeodoflcaaW.PrintWords Go.Proofs.YtpbnppeodoflcaaW.PrintLast Go.Proofs.YtpbnppeodoflcaaW.PrintMore Go.Proofs.Ytpbnppeodoflcaa.K
set_option linter.unusedVariables false
set_option linter.unusedSimpArgs false
theorem wrap64_id {x : Int} (h0 : -9223372036854775808 ≤ x) (h1 : x ≤ 9223372036854775807) : wrap64 x = x := by unfold wrap64; omega
theorem rd_nonneg {l : List Int} (h : okB l = true) (i : Int) : 0 ≤ rd l i ∧ rd l i < 256 := by
  unfold rd
  rw [List.getD_eq_getElem?_getD]
  by_cases hi : i.toNat < l.length
  · rw [List.getElem?_eq_getElem hi]; exact okB_mem h _ (List.getElem_mem hi)
  · rw [List.getElem?_eq_none (by omega)]; exact ⟨Int.le_refl _, by decide⟩
/-- Bit j of a byte. -/
def bitB (c : Int) (j : Nat) : Bool := c.toNat / 2 ^ j % 2 == 1
/-- Has a set a track. -/
def inS (s : List Int) (t : Int) : Bool := decide (0 ≤ t) && decide (t / 8 < s.length) && bitB (rd s (t / 8)) (t % 8).toNat
theorem power_tells : ∀ x : Nat, x < 8 → ∀ k, PR3.catamaranref03_power.f (k + 9) x = some (2 ^ x) := by
  intro x hx k
  have h : PR3.catamaranref03_power.f 9 x = some (2 ^ x) := by
    revert x
    decide +kernel
  exact at_rounds (fun k => PR3.catamaranref03_power.mono x k) (by omega) h
theorem In_tells (s : List Int) (hs : okB s = true) (t : Int) (h0 : -9223372036854775808 ≤ t) (h1 : t ≤ 9223372036854775807) (k : Nat) : PR3.catamaranref03_In.f (k + 9) s t = some (inS s t) := by
  unfold PR3.catamaranref03_In.f inS
  by_cases ht : 0 ≤ t
  · rw [if_pos (by omega)]
    have e1 : t.tdiv 8 = t / 8 := Int.tdiv_eq_ediv_of_nonneg ht
    have e2 : t.tmod 8 = t % 8 := Int.tmod_eq_emod_of_nonneg ht
    have e3 : wrap64 (t.tdiv 8) = t / 8 := by rw [e1]; exact wrap64_id (by omega) (by omega)
    rw [e3, e2]
    by_cases hl : t / 8 < s.length
    · rw [if_pos hl, if_pos (by omega)]
      obtain ⟨j, hj⟩ : ∃ j : Nat, t % 8 = j := Int.eq_ofNat_of_zero_le (by omega)
      have hr := rd_nonneg hs (t / 8)
      rw [hj, power_tells j (by omega) k]
      simp only [Option.bind_some]
      rw [if_neg (by have : (0 : Int) < 2 ^ j := Int.pow_pos (by decide); omega)]
      simp only [ht, hl, decide_true, Bool.true_and, Int.toNat_natCast]
      congr 1
      generalize rd s (t / 8) = c at *
      obtain ⟨c, rfl⟩ := Int.eq_ofNat_of_zero_le hr.1
      have hc : c < 256 := by omega
      have hj8 : j < 8 := by omega
      clear hj hs e1 e2 e3 hr h0 h1 ht hl
      revert hc
      revert c
      have key : ∀ j : Nat, j < 8 → ∀ c : Nat, c < 256 → (Int.tmod (wrap64 (Int.tdiv (wrap64 (c : Int)) (2 ^ j))) 2 == 1) = bitB (c : Int) j := by decide +kernel
      exact key j hj8
    · rw [if_neg hl]
      simp [hl]
  · rw [if_neg (by omega)]
    simp [ht]
/-- How many pages. -/
theorem pages_tells {n : Int} (h0 : 1 ≤ n) (h1 : n ≤ 16) : wrap64 (Int.tdiv (wrap64 (wrap64 (n + 8) - 1)) 8) = (n + 7) / 8 := by
  have e1 : wrap64 (n + 8) = n + 8 := wrap64_id (by omega) (by omega)
  have e2 : wrap64 (n + 8 - 1) = n + 7 := by rw [wrap64_id (by omega) (by omega)]; omega
  have e3 : (n + 7).tdiv 8 = (n + 7) / 8 := Int.tdiv_eq_ediv_of_nonneg (by omega)
  rw [e1, e2, e3]
  exact wrap64_id (by omega) (by omega)
/-- May it be a set of n tracks. -/
def mayS (n : Int) (s : List Int) : Bool := decide (1 ≤ n) && decide (n ≤ 16) && decide ((s.length : Int) = (n + 7) / 8) && (List.range' n.toNat (8 * s.length - n.toNat)).all fun t => !inS s (t : Int)
end Go.Proofs.Ytpbnppeodoflcaa.E
end
section
namespace Go.Proofs.Ytpbnppeodoflcaa.E
open Go.RowKit Go.Proofs.YtpbnppeodoflcaaW.PrintWords Go.Proofs.YtpbnppeodoflcaaW.PrintLast Go.Proofs.YtpbnppeodoflcaaW.PrintMore Go.Proofs.Ytpbnppeodoflcaa.K
set_option linter.unusedVariables false
set_option linter.unusedSimpArgs false
theorem inS_low (c : Int) (s : List Int) (j : Nat) (hj : j < 8) : inS (c :: s) (j : Int) = bitB c j := by
  unfold inS
  have e1 : (j : Int) / 8 = 0 := by omega
  have e2 : ((j : Int) % 8).toNat = j := by omega
  rw [e1, e2]
  have h0 : (0 : Int) ≤ (j : Int) := by omega
  have h1 : (0 : Int) < ((c :: s).length : Int) := by simp only [List.length_cons]; omega
  rw [decide_eq_true h0, decide_eq_true h1]
  rfl
theorem inS_high (c : Int) (s : List Int) (t : Int) (ht : 8 ≤ t) : inS (c :: s) t = inS s (t - 8) := by
  unfold inS
  have e1 : t / 8 = (t - 8) / 8 + 1 := by omega
  have e2 : t % 8 = (t - 8) % 8 := by omega
  rw [e2]
  have h0 : decide (0 ≤ t) = decide (0 ≤ t - 8) := by rw [decide_eq_true (show 0 ≤ t by omega), decide_eq_true (show 0 ≤ t - 8 by omega)]
  have h1 : decide (t / 8 < ((c :: s).length : Int)) = decide ((t - 8) / 8 < (s.length : Int)) := by
    rw [e1]
    simp only [List.length_cons]
    by_cases h : (t - 8) / 8 < (s.length : Int)
    · rw [decide_eq_true h, decide_eq_true (by omega)]
    · rw [decide_eq_false h, decide_eq_false (by omega)]
  have h2 : rd (c :: s) (t / 8) = rd s ((t - 8) / 8) := by
    unfold rd
    rw [e1, show ((t - 8) / 8 + 1).toNat = ((t - 8) / 8).toNat + 1 from by omega, List.getD_cons_succ]
  rw [h0, h1, h2]
theorem mask_tells : ∀ m : Nat, m < 9 → ∀ c : Nat, c < 256 → (Go.bits .andNot .u8 (c : Int) (2 ^ m - 1) == 0) = (List.range' m (8 - m)).all fun j => !bitB c j := by decide +kernel
theorem all_congr {l : List Nat} {p q : Nat → Bool} (h : ∀ x ∈ l, p x = q x) : l.all p = l.all q := by
  induction l with
  | nil => rfl
  | cons a l ih => rw [List.all_cons, List.all_cons, h a (by simp), ih (fun x hx => h x (by simp [hx]))]
theorem okS_one (m c : Int) : okS [m] [c] = (Go.bits .andNot .u8 c m == 0) := by
  unfold okS
  rw [show ([c] : List Int).length = 1 from rfl, show List.range 1 = [0] from rfl, List.all_cons, List.all_nil, Bool.and_true]
  rfl
theorem okS_two (a b c d : Int) : okS [a, b] [c, d] = ((Go.bits .andNot .u8 c a == 0) && (Go.bits .andNot .u8 d b == 0)) := by
  unfold okS
  rw [show ([c, d] : List Int).length = 2 from rfl, show List.range 2 = [0, 1] from rfl, List.all_cons, List.all_cons, List.all_nil, Bool.and_true]
  rfl
theorem okS_len (a s : List Int) (h : s.length ≠ a.length) : okS a s = false := by
  unfold okS
  rw [show (s.length == a.length) = false from by simpa using h]
  rfl
theorem mayS_len (n : Int) (s : List Int) (h : ¬ (s.length : Int) = (n + 7) / 8) : mayS n s = false := by
  unfold mayS
  rw [decide_eq_false h]
  simp
theorem mayS_all (m : Nat) (s : List Int) (h0 : 1 ≤ m) (h1 : m ≤ 16) (h : (s.length : Int) = ((m : Int) + 7) / 8) : mayS m s = (List.range' m (8 * s.length - m)).all fun (t : Nat) => !inS s (t : Int) := by
  unfold mayS
  rw [decide_eq_true h, decide_eq_true (show (1 : Int) ≤ m by omega), decide_eq_true (show (m : Int) ≤ 16 by omega), Int.toNat_natCast]
  rfl
theorem may_one (m c : Nat) (h0 : 1 ≤ m) (h8 : m ≤ 8) (hc : c < 256) : mayS m [(c : Int)] = (Go.bits .andNot .u8 (c : Int) (2 ^ m - 1) == 0) := by
  rw [mayS_all m _ h0 (by omega) (by simp only [List.length_cons, List.length_nil]; omega), mask_tells m (by omega) c hc]
  refine all_congr fun j hj => ?_
  rw [inS_low _ _ j (by simp at hj; omega)]
theorem may_two (m c d : Nat) (h0 : 9 ≤ m) (h8 : m ≤ 16) (hc : c < 256) (hd : d < 256) : mayS m [(c : Int), (d : Int)] = (Go.bits .andNot .u8 (d : Int) (2 ^ (m - 8) - 1) == 0) := by
  rw [mayS_all m _ (by omega) (by omega) (by simp only [List.length_cons, List.length_nil]; omega), mask_tells (m - 8) (by omega) d hd]
  obtain ⟨q, rfl⟩ : ∃ q, m = 8 + q := ⟨m - 8, by omega⟩
  rw [show ([(c : Int), (d : Int)] : List Int).length = 2 from rfl, show 8 * 2 - (8 + q) = 8 - q from by omega, show 8 + q - 8 = q from by omega, ← List.map_add_range', List.all_map]
  refine all_congr fun j hj => ?_
  simp only [Function.comp]
  rw [inS_high _ _ _ (by omega), show ((8 + j : Nat) : Int) - 8 = (j : Int) from by omega, inS_low _ _ j (by simp at hj; omega)]
theorem ok_may (n : Int) (s : List Int) (hs : okB s = true) (h0 : 1 ≤ n) (h1 : n ≤ 16) : okS (allB n) s = mayS n s := by
  obtain ⟨m, rfl⟩ := Int.eq_ofNat_of_zero_le (show 0 ≤ n by omega)
  by_cases h8 : (m : Int) ≤ 8
  · have ha : allB (m : Int) = [2 ^ m - 1] := by unfold allB; rw [if_pos h8, Int.toNat_natCast]
    rw [ha]
    rcases s with _ | ⟨c, _ | ⟨d, s⟩⟩
    · rw [okS_len _ _ (by simp), mayS_len _ _ (by simp only [List.length_nil]; omega)]
    · have hc := okB_mem hs c (by simp)
      obtain ⟨c, rfl⟩ := Int.eq_ofNat_of_zero_le hc.1
      rw [okS_one, may_one m c (by omega) (by omega) (by omega)]
    · rw [okS_len _ _ (by simp), mayS_len _ _ (by simp only [List.length_cons]; omega)]
  · have ha : allB (m : Int) = [255, 2 ^ (m - 8) - 1] := by unfold allB; rw [if_neg h8, show ((m : Int) - 8).toNat = m - 8 from by omega]
    rw [ha]
    rcases s with _ | ⟨c, _ | ⟨d, _ | ⟨e, s⟩⟩⟩
    · rw [okS_len _ _ (by simp), mayS_len _ _ (by simp only [List.length_nil]; omega)]
    · rw [okS_len _ _ (by simp), mayS_len _ _ (by simp only [List.length_cons, List.length_nil]; omega)]
    · have hc := okB_mem hs c (by simp)
      have hd := okB_mem hs d (by simp)
      obtain ⟨c, rfl⟩ := Int.eq_ofNat_of_zero_le hc.1
      obtain ⟨d, rfl⟩ := Int.eq_ofNat_of_zero_le hd.1
      have h255 := mask_tells 8 (by omega) c (by omega)
      rw [show ((2 : Int) ^ 8 - 1) = 255 from rfl, show List.range' 8 (8 - 8) = [] from rfl, List.all_nil] at h255
      rw [okS_two, may_two m c d (by omega) (by omega) (by omega) (by omega), h255, Bool.true_and]
    · rw [okS_len _ _ (by simp), mayS_len _ _ (by simp only [List.length_cons]; omega)]
theorem ckS_may (n : Int) (s : List Int) (hs : okB s = true) : ckS n s = if 1 ≤ n ∧ n ≤ 16 then (if mayS n s = true then 0 else 8) else 2 := by
  unfold ckS
  split
  · rename_i h
    rw [ok_may n s hs h.1 h.2]
  · rfl
end Go.Proofs.Ytpbnppeodoflcaa.E
end
section
namespace Go.Proofs.Ytpbnppeodoflcaa.PCt
open Go.Proofs.Ytpbnppeodoflcaa.E
open Go.RowKit Go.Proofs.YtpbnppeodoflcaaW.PrintWords Go.Proofs.YtpbnppeodoflcaaW.PrintLast Go.Proofs.YtpbnppeodoflcaaW.PrintMore
attribute [local go_sem] max2_int min2_int max_two min_two max_three min_three max_four min_four   -- for this text's walks alone
set_option linter.unusedVariables false
set_option linter.unusedSimpArgs false
def errW : Option Int → Value
  | none => .nilIface
  | some c => .iface 0 (.int .i64 c)
theorem errW_none : errW none = .nilIface := rfl
theorem errW_some (c : Int) : errW (some c) = .iface 0 (.int .i64 c) := rfl
end Go.Proofs.Ytpbnppeodoflcaa.PCt
end
section
namespace Go.Proofs.Ytpbnppeodoflcaa.E
open Go.RowKit Go.Proofs.YtpbnppeodoflcaaW.PrintWords Go.Proofs.YtpbnppeodoflcaaW.PrintLast Go.Proofs.YtpbnppeodoflcaaW.PrintMore Go.Proofs.Ytpbnppeodoflcaa.K
set_option linter.unusedVariables false
set_option linter.unusedSimpArgs false
theorem ckS_zero {n : Int} {s : List Int} (hs : okB s = true) (h : ckS n s = 0) : 1 ≤ n ∧ n ≤ 16 ∧ (s.length : Int) = (n + 7) / 8 ∧ ∀ t : Nat, n ≤ t → inS s (t : Int) = false := by
  rw [ckS_may n s hs] at h
  split at h
  · rename_i hn
    split at h
    · rename_i hm
      obtain ⟨m, rfl⟩ := Int.eq_ofNat_of_zero_le (show 0 ≤ n by omega)
      unfold mayS at hm
      simp only [Bool.and_eq_true, decide_eq_true_eq, List.all_eq_true, Bool.not_eq_true', Int.toNat_natCast] at hm
      refine ⟨hn.1, hn.2, hm.1.2, fun t ht => ?_⟩
      by_cases h8 : t < 8 * s.length
      · exact hm.2 t (by simp; omega)
      · unfold inS
        rw [decide_eq_false (show ¬ (t : Int) / 8 < (s.length : Int) by omega)]
        simp
    · simp at h
  · simp at h
end Go.Proofs.Ytpbnppeodoflcaa.E
end
section
namespace Go.Proofs.Ytpbnppeodoflcaa.E
open Go.RowKit Go.Proofs.YtpbnppeodoflcaaW.PrintWords Go.Proofs.YtpbnppeodoflcaaW.PrintLast Go.Proofs.YtpbnppeodoflcaaW.PrintMore Go.Proofs.Ytpbnppeodoflcaa.K
set_option linter.unusedVariables false
set_option linter.unusedSimpArgs false
def i64B (t : Int) : Bool := decide (-9223372036854775808 ≤ t) && decide (t ≤ 9223372036854775807)
def q3_In.f (l : List Int) (t : Int) : Option Bool := if okB l = true then (if i64B t = true then some (inS l t) else none) else none
theorem q3_In.calls (A0 : Option Addr) (c0 : Nat) (l0 : List Int) (a1 : Int) (r : Bool) (w : World) (hr0 : Kd.C (Kd.int .u8) w A0 l0.length l0) (hc0 : l0.length ≤ c0) (h : q3_In.f l0 a1 = some r) :
    Calls Try.prog 88 #[.slice A0 l0.length c0, .int .i64 a1] w fun e w' => e = .returned (.bool r) ∧ Drawn0 w w' := by
  unfold q3_In.f at h
  split at h
  · rename_i hb
    split at h
    · rename_i ht
      simp only [i64B, Bool.and_eq_true, decide_eq_true_eq] at ht
      exact PR3.catamaranref03_In.calls (0 + 9) A0 c0 l0 a1 r w hr0 hc0 (by rw [In_tells l0 hb a1 ht.1 ht.2 0]; exact h)
    · simp at h
  · simp at h
end Go.Proofs.Ytpbnppeodoflcaa.E
end
section
namespace Go.Proofs.Ytpbnppeodoflcaa.E
open Go.RowKit Go.Proofs.YtpbnppeodoflcaaW.PrintWords Go.Proofs.YtpbnppeodoflcaaW.PrintLast Go.Proofs.YtpbnppeodoflcaaW.PrintMore Go.Proofs.Ytpbnppeodoflcaa.K
set_option linter.unusedVariables false
set_option linter.unusedSimpArgs false
def bndB (b : Int × Int × Int) : Bool := !(decide (b.1 < b.2.1) || decide (b.1 > b.2.2))
set_option maxHeartbeats 8000000 in
set_option maxRecDepth 100000 in
theorem within_any (bs : List (Int × Int × Int)) (g c : Nat) (w : World) (hg : g < w.heap.size) (hm : bs.length ≤ 1000) (hc : bs.length ≤ c)
    (h : ∀ (i : Nat) (b : Int × Int × Int), bs[i]? = some b → w.cell? ⟨g, i * 3, none⟩ = some (.int .i64 b.1) ∧ w.cell? ⟨g, i * 3 + 1, none⟩ = some (.int .i64 b.2.1) ∧ w.cell? ⟨g, i * 3 + 2, none⟩ = some (.int .i64 b.2.2)) :
    Calls Try.prog 171 #[.slice (some ⟨g, 0, none⟩) bs.length c] w fun e w' => e = .returned (.bool (bs.all bndB)) ∧ Below w.heap.size w w' := by
  have H := Aside0.mk h
  clear h
  go_enter Try.func171, Try.ntmps171
  go_wp2
  go_loopg [7] (bs.length + 1) (fun kq v7 w' => ∃ (x : Int), v7 = .int .i64 x ∧ Aside0 (0 ≤ x ∧ x + kq = bs.length + 1) ∧ Aside0 ((bs.take x.toNat).all bndB = true) ∧ Aside0 (Below w.heap.size w w'))
  case atStart => exact ⟨0, rfl, ⟨by omega⟩, ⟨by simp⟩, ⟨Below.refl _ _⟩⟩
  case round =>
    obtain ⟨x, rfl, HX, HA, HB⟩ := hrel
    by_cases h1 : x < (bs.length : Int)
    · obtain ⟨i, rfl⟩ := Int.eq_ofNat_of_zero_le HX.out.1
      have c1 : decide ((i : Int) < (bs.length : Int)) = true := decide_eq_true h1
      have c1' : decide (i < bs.length) = true := decide_eq_true (by omega)
      obtain ⟨b, hb⟩ : ∃ b, bs[i]? = some b := ⟨bs[i]'(by omega), List.getElem?_eq_getElem (by omega)⟩
      have HH := Aside0.mk (H.out i b hb)
      have h0 := pw_cell_below HB.out HH.out.1
      have h1' := pw_cell_below HB.out HH.out.2.1
      have h2 := pw_cell_below HB.out HH.out.2.2
      have HBw := Aside0.mk (HB.out.alloc HB.out.size (.cells #[.int .i64 b.1, .int .i64 b.2.1, .int .i64 b.2.2] 242))
      have hT : bs.take (i + 1) = bs.take i ++ [b] := by rw [List.take_add_one, hb]; rfl
      have HT := Aside0.mk hT
      clear hT
      have HW : Aside0 (wrap64 ((i : Int) + 1) = ((i + 1 : Nat) : Int)) := ⟨by unfold wrap64; omega⟩
      by_cases c2 : b.1 < b.2.1
      · have d2 : decide (b.1 < b.2.1) = true := decide_eq_true c2
        go_wp2
        go_ret
        exact ⟨by
          have : bs.all bndB = false := List.all_eq_false.2 ⟨b, List.mem_of_getElem? hb, by simp [bndB, c2]⟩
          rw [this]; rfl, HBw.out⟩
      · have d2 : decide (b.1 < b.2.1) = false := decide_eq_false c2
        by_cases c3 : b.1 > b.2.2
        · have d3 : decide (b.1 > b.2.2) = true := decide_eq_true c3
          go_wp2
          go_ret
          exact ⟨by
            have : bs.all bndB = false := List.all_eq_false.2 ⟨b, List.mem_of_getElem? hb, by simp [bndB, c3]⟩
            rw [this]; rfl, HBw.out⟩
        · have d3 : decide (b.1 > b.2.2) = false := decide_eq_false c3
          go_wp2
          go_roundg (gk - 1)
          case measure => have := HX.out.2; omega
          case rel => exact ⟨((i + 1 : Nat) : Int), (by first | rfl | (rw [← HW.out]; rfl) | (simp; done) | (simp [*]; done)), ⟨by have := HX.out; omega⟩, ⟨by
            have h5 := HA.out
            rw [Int.toNat_natCast] at h5
            rw [Int.toNat_natCast, HT.out, List.all_append, h5]
            simp [bndB, c2, c3]⟩, ⟨HBw.out⟩⟩
    · have c1 : decide (x < (bs.length : Int)) = false := decide_eq_false h1
      go_wp2
      go_ret
      exact ⟨by
        have h5 := HA.out
        rw [List.take_of_length_le (by omega)] at h5
        rw [h5]; rfl, HB.out⟩
end Go.Proofs.Ytpbnppeodoflcaa.E
end
section
namespace Go.Proofs.Ytpbnppeodoflcaa.E
open Go.RowKit Go.Proofs.YtpbnppeodoflcaaW.PrintWords Go.Proofs.YtpbnppeodoflcaaW.PrintLast Go.Proofs.YtpbnppeodoflcaaW.PrintMore Go.Proofs.Ytpbnppeodoflcaa.K
set_option linter.unusedVariables false
set_option linter.unusedSimpArgs false
def bndC (c0 c1 c2 c3 c4 c5 : Int) : List (Int × Int × Int) := [(c0, 1, 3), (c1, 1, 16), (c2, 1, 32), (c3, 1, c0), (c4, 1, 4), (c5, 4, 64)]
/-- The error of a config. -/
def cfgS (c0 c1 c2 c3 c4 c5 : Int) : Int := if (bndC c0 c1 c2 c3 c4 c5).all bndB = true then (if c2 < wrap64 (c0 + 2) then 8 else 0) else 8
def place_Check.f (a0_0 a0_1 a0_2 a0_3 a0_4 a0_5 : Int) : Option Int := some (cfgS a0_0 a0_1 a0_2 a0_3 a0_4 a0_5)
theorem cells_flat (w : World) (g : Nat) (bs : List (Int × Int × Int)) (ty : TypeId) (h : w.heap[g]? = some (.cells ((bs.flatMap fun b => [Value.int .i64 b.1, .int .i64 b.2.1, .int .i64 b.2.2]).toArray) ty (0, 0))) :
    ∀ (i : Nat) (b : Int × Int × Int), bs[i]? = some b → w.cell? ⟨g, i * 3, none⟩ = some (.int .i64 b.1) ∧ w.cell? ⟨g, i * 3 + 1, none⟩ = some (.int .i64 b.2.1) ∧ w.cell? ⟨g, i * 3 + 2, none⟩ = some (.int .i64 b.2.2) := by
  intro i b hb
  have key : ∀ (bs : List (Int × Int × Int)) (i : Nat) (b : Int × Int × Int), bs[i]? = some b → ∀ k v, k < 3 → [Value.int .i64 b.1, .int .i64 b.2.1, .int .i64 b.2.2][k]? = some v → (bs.flatMap fun b => [Value.int .i64 b.1, .int .i64 b.2.1, .int .i64 b.2.2])[i * 3 + k]? = some v := by
    intro bs
    induction bs with
    | nil => intro i b hb; simp at hb
    | cons a bs ih =>
      intro i b hb k v hk hv
      rw [List.flatMap_cons]
      rcases i with _ | i
      · simp only [List.getElem?_cons_zero, Option.some.injEq] at hb
        subst hb
        rw [Nat.zero_mul, Nat.zero_add, List.getElem?_append_left (by simpa using hk)]
        exact hv
      · rw [List.getElem?_cons_succ] at hb
        rw [List.getElem?_append_right (by simp; omega)]
        have := ih i b hb k v hk hv
        rw [← this]
        congr 1
        simp
        omega
  refine ⟨?_, ?_, ?_⟩
  · refine (blk_cell h (i * 3)).trans ?_
    have := key bs i b hb 0 _ (by decide) rfl
    simpa using this
  · refine (blk_cell h (i * 3 + 1)).trans ?_
    have := key bs i b hb 1 _ (by decide) rfl
    simpa using this
  · refine (blk_cell h (i * 3 + 2)).trans ?_
    have := key bs i b hb 2 _ (by decide) rfl
    simpa using this
set_option maxHeartbeats 8000000 in
set_option maxRecDepth 100000 in
theorem place_Check.calls (a0_0 : Int) (a0_1 : Int) (a0_2 : Int) (a0_3 : Int) (a0_4 : Int) (a0_5 : Int) (r : Int) (w : World) (h : place_Check.f a0_0 a0_1 a0_2 a0_3 a0_4 a0_5 = some r) :
    Calls Try.prog 120 #[.agg #[.int .i64 a0_0, .int .i64 a0_1, .int .i64 a0_2, .int .i64 a0_3, .int .i64 a0_4, .int .i64 a0_5]] w fun e w' => e = .returned (.int .i64 r) ∧ Below w.heap.size w w' := by
  obtain rfl := Option.some.inj h
  clear h
  unfold cfgS
  have HB1 := Aside0.mk ((Below.refl w.heap.size w).alloc (Nat.le_refl _) (.cells #[.int .i64 a0_0, .int .i64 a0_1, .int .i64 a0_2, .int .i64 a0_3, .int .i64 a0_4, .int .i64 a0_5] 23))
  have HG := Aside0.mk (heap_alloc_new (w.alloc (.cells #[.int .i64 a0_0, .int .i64 a0_1, .int .i64 a0_2, .int .i64 a0_3, .int .i64 a0_4, .int .i64 a0_5] 23)) (.cells (((bndC a0_0 a0_1 a0_2 a0_3 a0_4 a0_5).flatMap fun b => [Value.int .i64 b.1, .int .i64 b.2.1, .int .i64 b.2.2]).toArray) 242))
  rw [World.size_alloc] at HG
  have HB2 := Aside0.mk (HB1.out.alloc HB1.out.size (.cells (((bndC a0_0 a0_1 a0_2 a0_3 a0_4 a0_5).flatMap fun b => [Value.int .i64 b.1, .int .i64 b.2.1, .int .i64 b.2.2]).toArray) 242))
  have HF : Aside0 (World.cell? (w.alloc (.cells #[.int .i64 a0_0, .int .i64 a0_1, .int .i64 a0_2, .int .i64 a0_3, .int .i64 a0_4, .int .i64 a0_5] 23)) ⟨w.heap.size, 0, none⟩ = some (.int .i64 a0_0) ∧ World.cell? (w.alloc (.cells #[.int .i64 a0_0, .int .i64 a0_1, .int .i64 a0_2, .int .i64 a0_3, .int .i64 a0_4, .int .i64 a0_5] 23)) ⟨w.heap.size, 2, none⟩ = some (.int .i64 a0_2)) := ⟨⟨(blk_cell (heap_alloc_new w _) 0).trans rfl, (blk_cell (heap_alloc_new w _) 2).trans rfl⟩⟩
  have HZ : Aside0 (w.heap.size + 1 < ((w.alloc (.cells #[.int .i64 a0_0, .int .i64 a0_1, .int .i64 a0_2, .int .i64 a0_3, .int .i64 a0_4, .int .i64 a0_5] 23)).alloc (.cells (((bndC a0_0 a0_1 a0_2 a0_3 a0_4 a0_5).flatMap fun b => [Value.int .i64 b.1, .int .i64 b.2.1, .int .i64 b.2.2]).toArray) 242)).heap.size) := ⟨by rw [World.size_alloc, World.size_alloc]; omega⟩
  cases h1 : (bndC a0_0 a0_1 a0_2 a0_3 a0_4 a0_5).all bndB with
  | true =>
    rw [if_pos rfl]
    by_cases h2 : a0_2 < wrap64 (a0_0 + 2)
    · rw [if_pos h2]
      have d2 : decide (a0_2 < wrap64 (a0_0 + 2)) = true := decide_eq_true h2
      go_enter Try.func120, Try.ntmps120
      go_wp2_with (first | (go_at_call 171; refine (within_any (bndC a0_0 a0_1 a0_2 a0_3 a0_4 a0_5) (w.heap.size + 1) 6 _ HZ.out (by simp [bndC]) (by simp [bndC]) (cells_flat _ _ _ _ HG.out)).mono ?_; rw [h1]; rintro e w1 ⟨rfl, hb⟩; (have HB := Aside0.mk (below_then HB2.out HB2.out.size hb)); (have hc2 := pw_cell_below hb (pw_cell_below (below_alloc (Below.refl _ _) _) HF.out.2)); (have hc0 := pw_cell_below hb (pw_cell_below (below_alloc (Below.refl _ _) _) HF.out.1)); clear hb))
      go_ret
      exact ⟨rfl, HB.out⟩
    · rw [if_neg h2]
      have d2 : decide (a0_2 < wrap64 (a0_0 + 2)) = false := decide_eq_false h2
      go_enter Try.func120, Try.ntmps120
      go_wp2_with (first | (go_at_call 171; refine (within_any (bndC a0_0 a0_1 a0_2 a0_3 a0_4 a0_5) (w.heap.size + 1) 6 _ HZ.out (by simp [bndC]) (by simp [bndC]) (cells_flat _ _ _ _ HG.out)).mono ?_; rw [h1]; rintro e w1 ⟨rfl, hb⟩; (have HB := Aside0.mk (below_then HB2.out HB2.out.size hb)); (have hc2 := pw_cell_below hb (pw_cell_below (below_alloc (Below.refl _ _) _) HF.out.2)); (have hc0 := pw_cell_below hb (pw_cell_below (below_alloc (Below.refl _ _) _) HF.out.1)); clear hb))
      go_ret
      exact ⟨rfl, HB.out⟩
  | false =>
    rw [if_neg (by decide)]
    go_enter Try.func120, Try.ntmps120
    go_wp2_with (first | (go_at_call 171; refine (within_any (bndC a0_0 a0_1 a0_2 a0_3 a0_4 a0_5) (w.heap.size + 1) 6 _ HZ.out (by simp [bndC]) (by simp [bndC]) (cells_flat _ _ _ _ HG.out)).mono ?_; rw [h1]; rintro e w1 ⟨rfl, hb⟩; (have HB := Aside0.mk (below_then HB2.out HB2.out.size hb)); (have hc2 := pw_cell_below hb (pw_cell_below (below_alloc (Below.refl _ _) _) HF.out.2)); (have hc0 := pw_cell_below hb (pw_cell_below (below_alloc (Below.refl _ _) _) HF.out.1)); clear hb))
    go_ret
    exact ⟨rfl, HB.out⟩
end Go.Proofs.Ytpbnppeodoflcaa.E
end
section
namespace Go.Proofs.Ytpbnppeodoflcaa.E
open Go.RowKit Go.Proofs.YtpbnppeodoflcaaW.PrintWords Go.Proofs.YtpbnppeodoflcaaW.PrintLast Go.Proofs.YtpbnppeodoflcaaW.PrintMore Go.Proofs.Ytpbnppeodoflcaa.K
set_option linter.unusedVariables false
set_option linter.unusedSimpArgs false
def pgsS (t : Int) : Int := wrap64 (Int.tdiv (wrap64 (wrap64 (t + 8) - 1)) 8)
set_option maxHeartbeats 800000 in
set_option maxRecDepth 100000 in
theorem pages_any (c0 c1 c2 c3 c4 c5 : Int) (w : World) : Calls Try.prog 197 #[.agg #[.int .i64 c0, .int .i64 c1, .int .i64 c2, .int .i64 c3, .int .i64 c4, .int .i64 c5]] w fun e w' => e = .returned (.int .i64 (pgsS c1)) ∧ w' = w.alloc (.cells #[.int .i64 c0, .int .i64 c1, .int .i64 c2, .int .i64 c3, .int .i64 c4, .int .i64 c5] 23) := by
  go_enter Try.func197, Try.ntmps197
  go_wp2
  go_ret
  exact ⟨rfl, rfl⟩
set_option maxHeartbeats 800000 in
set_option maxRecDepth 100000 in
theorem size_any (k o m n : Int) (w : World) : Calls Try.prog 194 #[.agg #[.int .u8 k, .int .i64 o, .int .i64 m, .int .i64 n]] w fun e w' => e = .returned (.int .i64 (wrap64 (wrap64 (o * m) * n))) ∧ Below w.heap.size w w' := by
  have HB := Aside0.mk ((Below.refl w.heap.size w).alloc (Nat.le_refl _) (.cells #[.int .u8 k, .int .i64 o, .int .i64 m, .int .i64 n] 267))
  go_enter Try.func194, Try.ntmps194
  go_wp2
  go_ret
  exact ⟨rfl, HB.out⟩
theorem results_c1 {P : Program} {fn : Func} {p : Tmp} {ty : TypeId} (h : fn.results = #[.cell p ty]) (tmps : Array Value) (w : World) (g : Nat) (t : TypeId) (cs : Array Value) (fr : Nat × Nat) (d : TypeDesc)
    (hp : tmps.getD p undef = .pointer (some ⟨g, 0, none⟩)) (hg : w.heap[g]? = some (.cells cs t fr))
    (hu : P.underlying ty = some d) (hd : (match d with | .struct _ | .array _ _ => true | _ => false) = true) (hi : (P.info? ty).map (·.size) = some cs.size) :
    (results fn tmps).run P w = .ok (.agg cs) w := by
  have hp' : tmps[p]?.getD undef = .pointer (some ⟨g, 0, none⟩) := by simpa using hp
  simp [results, h, hp', asAddr, run_loadVar_row w g t ty cs fr d hg hu hd hi]
/-- The four parts. -/
def partsV (c0 c1 c2 : Int) : Array Value := #[.int .u8 1, .int .i64 1, .int .i64 1, .int .i64 2, .int .u8 2, .int .i64 2, .int .i64 c2, .int .i64 1, .int .u8 3, .int .i64 c0, .int .i64 (pgsS c1), .int .i64 1, .int .u8 4, .int .i64 c0, .int .i64 c1, .int .i64 4]
set_option maxHeartbeats 8000000 in
set_option maxRecDepth 100000 in
theorem parts_any (c0 c1 c2 c3 c4 c5 : Int) (w : World) : Calls Try.prog 193 #[.agg #[.int .i64 c0, .int .i64 c1, .int .i64 c2, .int .i64 c3, .int .i64 c4, .int .i64 c5]] w fun e w' => e = .returned (.agg (partsV c0 c1 c2)) ∧ Below w.heap.size w w' := by
  have hn : ∀ (j : Nat) (v : Value) (W : World), W.cell? ⟨w.heap.size, j, none⟩ = some v → ∀ o, (W.alloc o).cell? ⟨w.heap.size, j, none⟩ = some v := fun j v W hW o => pw_cell_below (below_alloc (Below.refl _ _) _) hW
  go_enter Try.func193, Try.ntmps193
  go_wp2_with fail
  go_region_held3 (fun w' => w'.cell? ⟨w.heap.size, 0, none⟩ = some (.int .i64 c0) ∧ w'.cell? ⟨w.heap.size, 1, none⟩ = some (.int .i64 c1) ∧ w'.cell? ⟨w.heap.size, 2, none⟩ = some (.int .i64 c2) ∧ w'.cell? ⟨w.heap.size, 3, none⟩ = some (.int .i64 c3) ∧ w'.cell? ⟨w.heap.size, 4, none⟩ = some (.int .i64 c4) ∧ w'.cell? ⟨w.heap.size, 5, none⟩ = some (.int .i64 c5)) (first | go_keep | exact ⟨hn _ _ _ (by assumption) _, hn _ _ _ (by assumption) _, hn _ _ _ (by assumption) _, hn _ _ _ (by assumption) _, hn _ _ _ (by assumption) _, hn _ _ _ (by assumption) _⟩) (first | (go_at_call 197; refine (pages_any c0 c1 c2 c3 c4 c5 _).mono ?_; rintro e w2 ⟨rfl, rfl⟩))
  go_wp2
  have HG2 := heap_alloc_new (w.alloc (.cells #[.int .i64 c0, .int .i64 c1, .int .i64 c2, .int .i64 c3, .int .i64 c4, .int .i64 c5] 23)) (.cells (partsV c0 c1 c2) 268)
  rw [World.size_alloc] at HG2
  (try simp only [Exit.inBlock, Exit.then])
  refine bodyPost_ret (results_c1 rfl _ _ (w.heap.size + 1) 268 (partsV c0 c1 c2) (0, 0) _ rfl (by refine blk_drew ?_; refine blk_alloc ?_ _; exact HG2) Try.underlying268 rfl (by kernel_rfl)) rfl ?_
  exact ⟨rfl, by repeat (first | exact Below.refl _ _ | apply below_drew | apply below_alloc)⟩
end Go.Proofs.Ytpbnppeodoflcaa.E
end
section
namespace Go.Proofs.Ytpbnppeodoflcaa.E
open Go.RowKit Go.Proofs.YtpbnppeodoflcaaW.PrintWords Go.Proofs.YtpbnppeodoflcaaW.PrintLast Go.Proofs.YtpbnppeodoflcaaW.PrintMore Go.Proofs.Ytpbnppeodoflcaa.K
set_option linter.unusedVariables false
set_option linter.unusedSimpArgs false
def bndP (c0 c1 a1 a2 : Int) : List (Int × Int × Int) := [(a1, 0, wrap64 (c0 - 1)), (a2, 0, wrap64 (pgsS c1 - 1))]
/-- Where a page stands, or the error. -/
def pageS (c0 c1 c2 c3 c4 c5 a1 a2 : Int) : Int × Int :=
  if cfgS c0 c1 c2 c3 c4 c5 = 0 then (if (bndP c0 c1 a1 a2).all bndB = true then (wrap64 (wrap64 (wrap64 (wrap64 (wrap64 1 * 2)) + wrap64 (wrap64 (2 * c2))) + wrap64 (wrap64 (wrap64 (a1 * pgsS c1) + a2))), 0) else (0, 2)) else (0, cfgS c0 c1 c2 c3 c4 c5)
theorem below_lit2 {w w1 w2 : World} {o : Obj} (h : Below w.heap.size w w1) (k : Below (w1.alloc o).heap.size (w1.alloc o) w2) : Below w.heap.size w w2 := below_then (below_alloc h o) (below_alloc h o).size k
theorem part_at (c0 c1 c2 p : Int) (W : World) :
    (Instr.index 268 (.agg #[.int .u8 1, .int .i64 1, .int .i64 1, .int .i64 2, .int .u8 2, .int .i64 2, .int .i64 c2, .int .i64 1, .int .u8 3, .int .i64 c0, .int .i64 p, .int .i64 1, .int .u8 4, .int .i64 c0, .int .i64 c1, .int .i64 4]) (.int .i64 0)).run Try.prog W = .ok (.agg #[.int .u8 1, .int .i64 1, .int .i64 1, .int .i64 2]) W ∧
    (Instr.index 268 (.agg #[.int .u8 1, .int .i64 1, .int .i64 1, .int .i64 2, .int .u8 2, .int .i64 2, .int .i64 c2, .int .i64 1, .int .u8 3, .int .i64 c0, .int .i64 p, .int .i64 1, .int .u8 4, .int .i64 c0, .int .i64 c1, .int .i64 4]) (.int .i64 1)).run Try.prog W = .ok (.agg #[.int .u8 2, .int .i64 2, .int .i64 c2, .int .i64 1]) W ∧
    (Instr.index 268 (.agg #[.int .u8 1, .int .i64 1, .int .i64 1, .int .i64 2, .int .u8 2, .int .i64 2, .int .i64 c2, .int .i64 1, .int .u8 3, .int .i64 c0, .int .i64 p, .int .i64 1, .int .u8 4, .int .i64 c0, .int .i64 c1, .int .i64 4]) (.int .i64 2)).run Try.prog W = .ok (.agg #[.int .u8 3, .int .i64 c0, .int .i64 p, .int .i64 1]) W := ⟨by kernel_rfl, by kernel_rfl, by kernel_rfl⟩
set_option maxHeartbeats 8000000 in
set_option maxRecDepth 100000 in
theorem find_page (c0 c1 c2 c3 c4 c5 a1 a2 : Int) (w : World) :
    Calls Try.prog 184 #[.agg #[.int .i64 c0, .int .i64 c1, .int .i64 c2, .int .i64 c3, .int .i64 c4, .int .i64 c5], .int .u8 3, .int .i64 a1, .int .i64 a2] w fun e w' => e = .returned (.tuple #[.int .i64 (pageS c0 c1 c2 c3 c4 c5 a1 a2).1, .int .i64 (pageS c0 c1 c2 c3 c4 c5 a1 a2).2]) ∧ Below w.heap.size w w' := by
  have HB1 := Aside0.mk ((Below.refl w.heap.size w).alloc (Nat.le_refl _) (.cells #[.int .i64 c0, .int .i64 c1, .int .i64 c2, .int .i64 c3, .int .i64 c4, .int .i64 c5] 23))
  have HG := Aside0.mk (heap_alloc_new w (.cells #[.int .i64 c0, .int .i64 c1, .int .i64 c2, .int .i64 c3, .int .i64 c4, .int .i64 c5] 23))
  unfold pageS
  by_cases h1 : cfgS c0 c1 c2 c3 c4 c5 = 0
  · rw [if_pos h1]
    cases h2 : (bndP c0 c1 a1 a2).all bndB with
    | true =>
      rw [if_pos rfl]
      go_enter Try.func184, Try.ntmps184
      go_wp2_with (first | (go_at_call 120; refine (place_Check.calls c0 c1 c2 c3 c4 c5 0 _ (by rw [← h1]; rfl)).mono ?_; rintro e w1 ⟨rfl, hb⟩; (have HB := Aside0.mk (below_then HB1.out HB1.out.size hb)); (have hg1 := blk_below HG.out hb); (have k0 := (blk_cell hg1 0).trans rfl); (have k1 := (blk_cell hg1 1).trans rfl); (have k2 := (blk_cell hg1 2).trans rfl); (have k3 := (blk_cell hg1 3).trans rfl); (have k4 := (blk_cell hg1 4).trans rfl); (have k5 := (blk_cell hg1 5).trans rfl); clear hb) | (go_at_call 193; refine (parts_any c0 c1 c2 c3 c4 c5 _).mono ?_; rintro e w2 ⟨rfl, hb⟩; (have HB2 := Aside0.mk (below_then HB.out HB.out.size hb)); clear hb; unfold partsV))
      have hi0 := fun W => (part_at c0 c1 c2 (pgsS c1) W).1
      have hi1 := fun W => (part_at c0 c1 c2 (pgsS c1) W).2.1
      have hi2 := fun W => (part_at c0 c1 c2 (pgsS c1) W).2.2
      refine wp_loop_rounds 3 ?_
      rw [rounds_succ]
      go_wp2_with (first | (go_at_call 194; refine (size_any 1 1 1 2 _).mono ?_; rintro e w3 ⟨rfl, hb⟩; (have HB3 := Aside0.mk (below_lit2 HB2.out hb)); clear hb))
      rw [rounds_succ]
      go_wp2_with (first | (go_at_call 194; refine (size_any 2 2 c2 1 _).mono ?_; rintro e w4 ⟨rfl, hb⟩; (have HB4 := Aside0.mk (below_lit2 HB3.out hb)); clear hb))
      rw [rounds_succ]
      have HG4 := Aside0.mk (heap_alloc_new (w4.alloc (.cells #[.int .u8 3, .int .i64 c0, .int .i64 (pgsS c1), .int .i64 1] 267)) (.cells (((bndP c0 c1 a1 a2).flatMap fun b => [Value.int .i64 b.1, .int .i64 b.2.1, .int .i64 b.2.2]).toArray) 242))
      rw [World.size_alloc] at HG4
      have HZ : Aside0 (w4.heap.size + 1 < ((w4.alloc (.cells #[.int .u8 3, .int .i64 c0, .int .i64 (pgsS c1), .int .i64 1] 267)).alloc (.cells (((bndP c0 c1 a1 a2).flatMap fun b => [Value.int .i64 b.1, .int .i64 b.2.1, .int .i64 b.2.2]).toArray) 242)).heap.size) := ⟨by rw [World.size_alloc, World.size_alloc]; omega⟩
      have HB5 := Aside0.mk (below_alloc (below_alloc HB4.out (.cells #[.int .u8 3, .int .i64 c0, .int .i64 (pgsS c1), .int .i64 1] 267)) (.cells (((bndP c0 c1 a1 a2).flatMap fun b => [Value.int .i64 b.1, .int .i64 b.2.1, .int .i64 b.2.2]).toArray) 242))
      have HP5 := Aside0.mk (blk_alloc (heap_alloc_new w4 (.cells #[.int .u8 3, .int .i64 c0, .int .i64 (pgsS c1), .int .i64 1] 267)) (.cells (((bndP c0 c1 a1 a2).flatMap fun b => [Value.int .i64 b.1, .int .i64 b.2.1, .int .i64 b.2.2]).toArray) 242))
      go_wp2_with (first | (go_at_call 171; refine (within_any (bndP c0 c1 a1 a2) (w4.heap.size + 1) 2 _ HZ.out (by simp [bndP]) (by simp [bndP]) (cells_flat _ _ _ _ HG4.out)).mono ?_; rw [h2]; rintro e w5 ⟨rfl, hb⟩; (have HB6 := Aside0.mk (below_then HB5.out HB5.out.size hb)); (have hg5 := blk_below HP5.out hb); (have m0 := (blk_cell hg5 0).trans rfl); (have m1 := (blk_cell hg5 1).trans rfl); (have m2 := (blk_cell hg5 2).trans rfl); (have m3 := (blk_cell hg5 3).trans rfl); clear hb hg5))
      go_ret2
      exact ⟨rfl, HB6.out⟩
    | false =>
      rw [if_neg (by decide)]
      go_enter Try.func184, Try.ntmps184
      go_wp2_with (first | (go_at_call 120; refine (place_Check.calls c0 c1 c2 c3 c4 c5 0 _ (by rw [← h1]; rfl)).mono ?_; rintro e w1 ⟨rfl, hb⟩; (have HB := Aside0.mk (below_then HB1.out HB1.out.size hb)); (have hg1 := blk_below HG.out hb); (have k0 := (blk_cell hg1 0).trans rfl); (have k1 := (blk_cell hg1 1).trans rfl); (have k2 := (blk_cell hg1 2).trans rfl); (have k3 := (blk_cell hg1 3).trans rfl); (have k4 := (blk_cell hg1 4).trans rfl); (have k5 := (blk_cell hg1 5).trans rfl); clear hb) | (go_at_call 193; refine (parts_any c0 c1 c2 c3 c4 c5 _).mono ?_; rintro e w2 ⟨rfl, hb⟩; (have HB2 := Aside0.mk (below_then HB.out HB.out.size hb)); clear hb; unfold partsV))
      have hi0 := fun W => (part_at c0 c1 c2 (pgsS c1) W).1
      have hi1 := fun W => (part_at c0 c1 c2 (pgsS c1) W).2.1
      have hi2 := fun W => (part_at c0 c1 c2 (pgsS c1) W).2.2
      refine wp_loop_rounds 3 ?_
      rw [rounds_succ]
      go_wp2_with (first | (go_at_call 194; refine (size_any 1 1 1 2 _).mono ?_; rintro e w3 ⟨rfl, hb⟩; (have HB3 := Aside0.mk (below_lit2 HB2.out hb)); clear hb))
      rw [rounds_succ]
      go_wp2_with (first | (go_at_call 194; refine (size_any 2 2 c2 1 _).mono ?_; rintro e w4 ⟨rfl, hb⟩; (have HB4 := Aside0.mk (below_lit2 HB3.out hb)); clear hb))
      rw [rounds_succ]
      have HG4 := Aside0.mk (heap_alloc_new (w4.alloc (.cells #[.int .u8 3, .int .i64 c0, .int .i64 (pgsS c1), .int .i64 1] 267)) (.cells (((bndP c0 c1 a1 a2).flatMap fun b => [Value.int .i64 b.1, .int .i64 b.2.1, .int .i64 b.2.2]).toArray) 242))
      rw [World.size_alloc] at HG4
      have HZ : Aside0 (w4.heap.size + 1 < ((w4.alloc (.cells #[.int .u8 3, .int .i64 c0, .int .i64 (pgsS c1), .int .i64 1] 267)).alloc (.cells (((bndP c0 c1 a1 a2).flatMap fun b => [Value.int .i64 b.1, .int .i64 b.2.1, .int .i64 b.2.2]).toArray) 242)).heap.size) := ⟨by rw [World.size_alloc, World.size_alloc]; omega⟩
      have HB5 := Aside0.mk (below_alloc (below_alloc HB4.out (.cells #[.int .u8 3, .int .i64 c0, .int .i64 (pgsS c1), .int .i64 1] 267)) (.cells (((bndP c0 c1 a1 a2).flatMap fun b => [Value.int .i64 b.1, .int .i64 b.2.1, .int .i64 b.2.2]).toArray) 242))
      have HP5 := Aside0.mk (blk_alloc (heap_alloc_new w4 (.cells #[.int .u8 3, .int .i64 c0, .int .i64 (pgsS c1), .int .i64 1] 267)) (.cells (((bndP c0 c1 a1 a2).flatMap fun b => [Value.int .i64 b.1, .int .i64 b.2.1, .int .i64 b.2.2]).toArray) 242))
      go_wp2_with (first | (go_at_call 171; refine (within_any (bndP c0 c1 a1 a2) (w4.heap.size + 1) 2 _ HZ.out (by simp [bndP]) (by simp [bndP]) (cells_flat _ _ _ _ HG4.out)).mono ?_; rw [h2]; rintro e w5 ⟨rfl, hb⟩; (have HB6 := Aside0.mk (below_then HB5.out HB5.out.size hb)); (have hg5 := blk_below HP5.out hb); (have m0 := (blk_cell hg5 0).trans rfl); (have m1 := (blk_cell hg5 1).trans rfl); (have m2 := (blk_cell hg5 2).trans rfl); (have m3 := (blk_cell hg5 3).trans rfl); clear hb hg5))
      go_ret2
      exact ⟨rfl, HB6.out⟩
  · rw [if_neg h1]
    have d1 : (cfgS c0 c1 c2 c3 c4 c5 != 0) = true := by simpa using h1
    clear h1
    go_enter Try.func184, Try.ntmps184
    go_wp2_with (first | (go_at_call 120; refine (place_Check.calls c0 c1 c2 c3 c4 c5 _ _ rfl).mono ?_; rintro e w1 ⟨rfl, hb⟩; (have HB := Aside0.mk (below_then HB1.out HB1.out.size hb)); clear hb))
    go_ret2
    exact ⟨rfl, HB.out⟩
def place_Page.f (a0_0 a0_1 a0_2 a0_3 a0_4 a0_5 a1 a2 : Int) : Option (Int × Int) := some (pageS a0_0 a0_1 a0_2 a0_3 a0_4 a0_5 a1 a2)
set_option maxHeartbeats 8000000 in
set_option maxRecDepth 100000 in
theorem place_Page.calls (a0_0 : Int) (a0_1 : Int) (a0_2 : Int) (a0_3 : Int) (a0_4 : Int) (a0_5 : Int) (a1 : Int) (a2 : Int) (r1 : Int) (r2 : Int) (w : World) (h : place_Page.f a0_0 a0_1 a0_2 a0_3 a0_4 a0_5 a1 a2 = some (r1, r2)) :
    Calls Try.prog 142 #[.agg #[.int .i64 a0_0, .int .i64 a0_1, .int .i64 a0_2, .int .i64 a0_3, .int .i64 a0_4, .int .i64 a0_5], .int .i64 a1, .int .i64 a2] w fun e w' => e = .returned (.tuple #[.int .i64 r1, .int .i64 r2]) ∧ Below w.heap.size w w' := by
  have h' := Option.some.inj h
  have e1 : (pageS a0_0 a0_1 a0_2 a0_3 a0_4 a0_5 a1 a2).1 = r1 := by rw [h']
  have e2 : (pageS a0_0 a0_1 a0_2 a0_3 a0_4 a0_5 a1 a2).2 = r2 := by rw [h']
  clear h h'
  have HB1 := Aside0.mk ((Below.refl w.heap.size w).alloc (Nat.le_refl _) (.cells #[.int .i64 a0_0, .int .i64 a0_1, .int .i64 a0_2, .int .i64 a0_3, .int .i64 a0_4, .int .i64 a0_5] 23))
  go_enter Try.func142, Try.ntmps142
  go_wp2_with (first | (go_at_call 184; refine (find_page a0_0 a0_1 a0_2 a0_3 a0_4 a0_5 a1 a2 _).mono ?_; rw [e1, e2]; rintro e w1 ⟨rfl, hb⟩; (have HB := Aside0.mk (below_then HB1.out HB1.out.size hb)); clear hb))
  go_ret2
  exact ⟨rfl, HB.out⟩
end Go.Proofs.Ytpbnppeodoflcaa.E
end
section
namespace Go.Proofs.Ytpbnppeodoflcaa.E
open Go.RowKit Go.Proofs.YtpbnppeodoflcaaW.PrintWords Go.Proofs.YtpbnppeodoflcaaW.PrintLast Go.Proofs.YtpbnppeodoflcaaW.PrintMore Go.Proofs.Ytpbnppeodoflcaa.K
theorem w64_id {x : Int} (h0 : -9223372036854775808 ≤ x) (h1 : x ≤ 9223372036854775807) : wrap64 x = x := by unfold wrap64; omega
theorem wfi64 {x : Int} (h : (Lit.int .i64 x).wf = true) : -9223372036854775808 ≤ x ∧ x ≤ 9223372036854775807 := by
  simp [Lit.wf, IntKind.bits, IntKind.signed, IntKind.min, IntKind.max] at h
  omega
end Go.Proofs.Ytpbnppeodoflcaa.E
end
section
namespace Go.Proofs.Ytpbnppeodoflcaa.E
open Go.RowKit Go.Proofs.YtpbnppeodoflcaaW.PrintWords Go.Proofs.YtpbnppeodoflcaaW.PrintLast Go.Proofs.YtpbnppeodoflcaaW.PrintMore Go.Proofs.Ytpbnppeodoflcaa.K
set_option linter.unusedVariables false
set_option linter.unusedSimpArgs false
def q3_Full.f (n : Int) : Option (List Int) := if 1 ≤ n ∧ n ≤ 16 then some (allB n) else none
theorem full_tells : ∀ n : Nat, n < 16 → PR3.catamaranref03_Full.f 60 ((n + 1 : Nat) : Int) = some (allB ((n + 1 : Nat) : Int)) := by decide +kernel
theorem q3_Full.calls (a0 : Int) (r : List Int) (w : World) (h : q3_Full.f a0 = some r) :
    Calls Try.prog 79 #[.int .i64 a0] w fun e w' => ∃ v0_ : Value, e = .returned (v0_) ∧ Kd.R (Kd.int .u8) 5 w' w.heap.size (fun _ => True) v0_ r ∧ Below w.heap.size w w' := by
  unfold q3_Full.f at h
  split at h
  · rename_i hn
    obtain ⟨n, rfl⟩ : ∃ n : Nat, a0 = ((n + 1 : Nat) : Int) := ⟨(a0 - 1).toNat, by omega⟩
    exact PR3.catamaranref03_Full.calls 60 _ r w (by rw [full_tells n (by omega)]; exact h)
  · simp at h
end Go.Proofs.Ytpbnppeodoflcaa.E
end
section
namespace Go.Proofs.Ytpbnppeodoflcaa.PDf
open Go.Proofs.Ytpbnppeodoflcaa.E
open Go.RowKit Go.Proofs.YtpbnppeodoflcaaW.PrintWords Go.Proofs.YtpbnppeodoflcaaW.PrintLast Go.Proofs.YtpbnppeodoflcaaW.PrintMore
attribute [local go_sem] max2_int min2_int max_two min_two max_three min_three max_four min_four   -- for this text's walks alone
set_option linter.unusedVariables false
set_option linter.unusedSimpArgs false
def errW : Option Int → Value
  | none => .nilIface
  | some c => .iface 0 (.int .i64 c)
theorem errW_none : errW none = .nilIface := rfl
theorem errW_some (c : Int) : errW (some c) = .iface 0 (.int .i64 c) := rfl
theorem info4 : (Try.prog.info? 4).map (fun i => (i.zero, i.size, i.bytes)) = some (some (.bool false), 1, 1) := by kernel_rfl
theorem info5 : (Try.prog.info? 5).map (fun i => (i.zero, i.size, i.bytes)) = some (some (.int .u8 0), 1, 1) := by kernel_rfl
theorem info136 : (Try.prog.info? 136).map (fun i => (i.zero, i.size, i.bytes)) = some (some (.agg #[(.int .u8 0), (.int .i64 0), (.slice none 0 0), (.int .u32 0), (.int .u32 0), (.int .u8 0), (.int .i64 0), (.bool false), (.int .i64 0), (.int .u32 0), (.int .u32 0), (.int .i64 0), (.int .u8 0), (.int .i64 0), (.bool false), (.bool false), (.int .u8 0), (.int .u32 0), (.int .u32 0), (.int .i64 0), (.int .u32 0), (.int .i64 0), (.slice none 0 0), (.slice none 0 0), (.int .i64 0), (.int .i64 0), (.int .u8 0), (.slice none 0 0), (.int .i64 0)]), 29, 264) := by kernel_rfl
def rd_L3 (xs : List (List Int)) (i : Int) : (List Int) := xs.getD i.toNat ([] : List Int)
theorem at_L3 {w : World} {A : Option Addr} {n : Nat} {xs : List (List Int)} (h : Kd.C (Kd.slice 5 (Kd.int .u8)) w A n xs) (i : Int) (h0 : 0 ≤ i) (h1 : i < n) : ∃ ad A0 c0, A = some ad ∧ w.cell? (ad.add i.toNat) = some (.slice A0 (rd_L3 xs i).length c0) ∧ (rd_L3 xs i).length ≤ c0 ∧ (Kd.int .u8).C w A0 (rd_L3 xs i).length (rd_L3 xs i) := by
  obtain ⟨ad, c, e, _, hK, hc0⟩ := Kd.C_get h ([] : List Int) i h0 h1
  have hc : ∀ j u, c[j]? = some u → w.cell? (ad.add (i.toNat * 1 + j)) = some u := hc0
  obtain ⟨A0, c0, rfl, l0, g0⟩ := hK
  exact ⟨ad, A0, c0, e, by have hq := hc 0 _ rfl; rwa [Nat.mul_one, Nat.add_zero] at hq, l0, g0⟩
structure S132 where
  f0 : Int
  f1 : Int
  f2 : Int
  f3 : Int
  f4 : Int
  f5 : Int
  f6 : Bool
  f7 : Bool
def z132 : S132 := ⟨(0 : Int), (0 : Int), (0 : Int), (0 : Int), (0 : Int), (0 : Int), false, false⟩
def k132 : Kd S132 := Kd.iso (Kd.pair (Kd.int .i64) (Kd.pair (Kd.int .u32) (Kd.pair (Kd.int .u32) (Kd.pair (Kd.int .i64) (Kd.pair (Kd.int .u8) (Kd.pair (Kd.int .i64) (Kd.pair Kd.bool Kd.bool))))))) (fun x : S132 => (x.f0, x.f1, x.f2, x.f3, x.f4, x.f5, x.f6, x.f7))
theorem k132_open {w : World} {x : S132} {cs : List Value} (h : k132.K w x cs) : cs = [.int .i64 x.f0, .int .u32 x.f1, .int .u32 x.f2, .int .i64 x.f3, .int .u8 x.f4, .int .i64 x.f5, .bool x.f6, .bool x.f7] := by
  obtain ⟨_, _, rfl, rfl, ⟨_, _, rfl, rfl, ⟨_, _, rfl, rfl, ⟨_, _, rfl, rfl, ⟨_, _, rfl, rfl, ⟨_, _, rfl, rfl, ⟨_, _, rfl, rfl, rfl⟩⟩⟩⟩⟩⟩⟩ := h
  exact rfl
theorem k132_mkM (w : World) (base : Nat) (ok : Nat → Prop) (x : S132)  : k132.M w base ok x [.int .i64 x.f0, .int .u32 x.f1, .int .u32 x.f2, .int .i64 x.f3, .int .u8 x.f4, .int .i64 x.f5, .bool x.f6, .bool x.f7] := ⟨[.int .i64 x.f0], [.int .u32 x.f1, .int .u32 x.f2, .int .i64 x.f3, .int .u8 x.f4, .int .i64 x.f5, .bool x.f6, .bool x.f7], rfl, rfl, ⟨[.int .u32 x.f1], [.int .u32 x.f2, .int .i64 x.f3, .int .u8 x.f4, .int .i64 x.f5, .bool x.f6, .bool x.f7], rfl, rfl, ⟨[.int .u32 x.f2], [.int .i64 x.f3, .int .u8 x.f4, .int .i64 x.f5, .bool x.f6, .bool x.f7], rfl, rfl, ⟨[.int .i64 x.f3], [.int .u8 x.f4, .int .i64 x.f5, .bool x.f6, .bool x.f7], rfl, rfl, ⟨[.int .u8 x.f4], [.int .i64 x.f5, .bool x.f6, .bool x.f7], rfl, rfl, ⟨[.int .i64 x.f5], [.bool x.f6, .bool x.f7], rfl, rfl, ⟨[.bool x.f6], [.bool x.f7], rfl, rfl, rfl⟩⟩⟩⟩⟩⟩⟩
structure S134 where
  f0 : Int
  f1 : Int
  f2 : Bool
  f3 : S132
  f4 : Int
  f5 : Int
  f6 : Int
  f7 : Int
  f8 : Int
  f9 : Int
  f10 : (List Int)
  f11 : (List Int)
def z134 : S134 := ⟨(0 : Int), (0 : Int), false, z132, (0 : Int), (0 : Int), (0 : Int), (0 : Int), (0 : Int), (0 : Int), ([] : List Int), ([] : List Int)⟩
def k134 : Kd S134 := Kd.iso (Kd.pair (Kd.int .u8) (Kd.pair (Kd.int .i64) (Kd.pair Kd.bool (Kd.pair k132 (Kd.pair (Kd.int .u8) (Kd.pair (Kd.int .u32) (Kd.pair (Kd.int .u32) (Kd.pair (Kd.int .i64) (Kd.pair (Kd.int .u32) (Kd.pair (Kd.int .i64) (Kd.pair (Kd.slice 5 (Kd.int .u8)) (Kd.slice 5 (Kd.int .u8))))))))))))) (fun x : S134 => (x.f0, x.f1, x.f2, x.f3, x.f4, x.f5, x.f6, x.f7, x.f8, x.f9, x.f10, x.f11))
theorem k134_open {w : World} {x : S134} {cs : List Value} (h : k134.K w x cs) : ∃ A17 c17 A18 c18, cs = [.int .u8 x.f0, .int .i64 x.f1, .bool x.f2, .int .i64 x.f3.f0, .int .u32 x.f3.f1, .int .u32 x.f3.f2, .int .i64 x.f3.f3, .int .u8 x.f3.f4, .int .i64 x.f3.f5, .bool x.f3.f6, .bool x.f3.f7, .int .u8 x.f4, .int .u32 x.f5, .int .u32 x.f6, .int .i64 x.f7, .int .u32 x.f8, .int .i64 x.f9, .slice A17 x.f10.length c17, .slice A18 x.f11.length c18] ∧ x.f10.length ≤ c17 ∧ (Kd.int .u8).C w A17 x.f10.length x.f10 ∧ x.f11.length ≤ c18 ∧ (Kd.int .u8).C w A18 x.f11.length x.f11 := by
  obtain ⟨_, _, rfl, rfl, ⟨_, _, rfl, rfl, ⟨_, _, rfl, rfl, ⟨_, _, rfl, s3, ⟨_, _, rfl, rfl, ⟨_, _, rfl, rfl, ⟨_, _, rfl, rfl, ⟨_, _, rfl, rfl, ⟨_, _, rfl, rfl, ⟨_, _, rfl, rfl, ⟨_, _, rfl, ⟨A17, c17, rfl, l17, g17⟩, ⟨A18, c18, rfl, l18, g18⟩⟩⟩⟩⟩⟩⟩⟩⟩⟩⟩⟩ := h
  obtain rfl := k132_open s3
  exact ⟨A17, c17, A18, c18, rfl, l17, g17, l18, g18⟩
theorem k134_mkM (w : World) (base : Nat) (ok : Nat → Prop) (x : S134) {v17 : Value} (g17 : (Kd.int .u8).R 5 w base ok v17 x.f10) {v18 : Value} (g18 : (Kd.int .u8).R 5 w base ok v18 x.f11) : k134.M w base ok x [.int .u8 x.f0, .int .i64 x.f1, .bool x.f2, .int .i64 x.f3.f0, .int .u32 x.f3.f1, .int .u32 x.f3.f2, .int .i64 x.f3.f3, .int .u8 x.f3.f4, .int .i64 x.f3.f5, .bool x.f3.f6, .bool x.f3.f7, .int .u8 x.f4, .int .u32 x.f5, .int .u32 x.f6, .int .i64 x.f7, .int .u32 x.f8, .int .i64 x.f9, v17, v18] := ⟨[.int .u8 x.f0], [.int .i64 x.f1, .bool x.f2, .int .i64 x.f3.f0, .int .u32 x.f3.f1, .int .u32 x.f3.f2, .int .i64 x.f3.f3, .int .u8 x.f3.f4, .int .i64 x.f3.f5, .bool x.f3.f6, .bool x.f3.f7, .int .u8 x.f4, .int .u32 x.f5, .int .u32 x.f6, .int .i64 x.f7, .int .u32 x.f8, .int .i64 x.f9, v17, v18], rfl, rfl, ⟨[.int .i64 x.f1], [.bool x.f2, .int .i64 x.f3.f0, .int .u32 x.f3.f1, .int .u32 x.f3.f2, .int .i64 x.f3.f3, .int .u8 x.f3.f4, .int .i64 x.f3.f5, .bool x.f3.f6, .bool x.f3.f7, .int .u8 x.f4, .int .u32 x.f5, .int .u32 x.f6, .int .i64 x.f7, .int .u32 x.f8, .int .i64 x.f9, v17, v18], rfl, rfl, ⟨[.bool x.f2], [.int .i64 x.f3.f0, .int .u32 x.f3.f1, .int .u32 x.f3.f2, .int .i64 x.f3.f3, .int .u8 x.f3.f4, .int .i64 x.f3.f5, .bool x.f3.f6, .bool x.f3.f7, .int .u8 x.f4, .int .u32 x.f5, .int .u32 x.f6, .int .i64 x.f7, .int .u32 x.f8, .int .i64 x.f9, v17, v18], rfl, rfl, ⟨[.int .i64 x.f3.f0, .int .u32 x.f3.f1, .int .u32 x.f3.f2, .int .i64 x.f3.f3, .int .u8 x.f3.f4, .int .i64 x.f3.f5, .bool x.f3.f6, .bool x.f3.f7], [.int .u8 x.f4, .int .u32 x.f5, .int .u32 x.f6, .int .i64 x.f7, .int .u32 x.f8, .int .i64 x.f9, v17, v18], rfl, (k132_mkM w base ok x.f3 ), ⟨[.int .u8 x.f4], [.int .u32 x.f5, .int .u32 x.f6, .int .i64 x.f7, .int .u32 x.f8, .int .i64 x.f9, v17, v18], rfl, rfl, ⟨[.int .u32 x.f5], [.int .u32 x.f6, .int .i64 x.f7, .int .u32 x.f8, .int .i64 x.f9, v17, v18], rfl, rfl, ⟨[.int .u32 x.f6], [.int .i64 x.f7, .int .u32 x.f8, .int .i64 x.f9, v17, v18], rfl, rfl, ⟨[.int .i64 x.f7], [.int .u32 x.f8, .int .i64 x.f9, v17, v18], rfl, rfl, ⟨[.int .u32 x.f8], [.int .i64 x.f9, v17, v18], rfl, rfl, ⟨[.int .i64 x.f9], [v17, v18], rfl, rfl, ⟨[v17], [v18], rfl, ⟨v17, rfl, g17⟩, ⟨v18, rfl, g18⟩⟩⟩⟩⟩⟩⟩⟩⟩⟩⟩⟩
structure S55 where
  f0 : Int
  f1 : Int
  f2 : Int
  f3 : (List Int)
def z55 : S55 := ⟨(0 : Int), (0 : Int), (0 : Int), ([] : List Int)⟩
def k55 : Kd S55 := Kd.iso (Kd.pair (Kd.int .i64) (Kd.pair (Kd.int .i64) (Kd.pair (Kd.int .u8) (Kd.slice 5 (Kd.int .u8))))) (fun x : S55 => (x.f0, x.f1, x.f2, x.f3))
theorem k55_open {w : World} {x : S55} {cs : List Value} (h : k55.K w x cs) : ∃ A3 c3, cs = [.int .i64 x.f0, .int .i64 x.f1, .int .u8 x.f2, .slice A3 x.f3.length c3] ∧ x.f3.length ≤ c3 ∧ (Kd.int .u8).C w A3 x.f3.length x.f3 := by
  obtain ⟨_, _, rfl, rfl, ⟨_, _, rfl, rfl, ⟨_, _, rfl, rfl, ⟨A3, c3, rfl, l3, g3⟩⟩⟩⟩ := h
  exact ⟨A3, c3, rfl, l3, g3⟩
theorem k55_mkM (w : World) (base : Nat) (ok : Nat → Prop) (x : S55) {v3 : Value} (g3 : (Kd.int .u8).R 5 w base ok v3 x.f3) : k55.M w base ok x [.int .i64 x.f0, .int .i64 x.f1, .int .u8 x.f2, v3] := ⟨[.int .i64 x.f0], [.int .i64 x.f1, .int .u8 x.f2, v3], rfl, rfl, ⟨[.int .i64 x.f1], [.int .u8 x.f2, v3], rfl, rfl, ⟨[.int .u8 x.f2], [v3], rfl, rfl, ⟨v3, rfl, g3⟩⟩⟩⟩
structure S136 where
  f0 : Int
  f1 : Int
  f2 : (List Int)
  f3 : Int
  f4 : Int
  f5 : S134
  f6 : S55
  f7 : Int
def z136 : S136 := ⟨(0 : Int), (0 : Int), ([] : List Int), (0 : Int), (0 : Int), z134, z55, (0 : Int)⟩
def k136 : Kd S136 := Kd.iso (Kd.pair (Kd.int .u8) (Kd.pair (Kd.int .i64) (Kd.pair (Kd.slice 5 (Kd.int .u8)) (Kd.pair (Kd.int .u32) (Kd.pair (Kd.int .u32) (Kd.pair k134 (Kd.pair k55 (Kd.int .i64)))))))) (fun x : S136 => (x.f0, x.f1, x.f2, x.f3, x.f4, x.f5, x.f6, x.f7))
theorem k136_open {w : World} {x : S136} {cs : List Value} (h : k136.K w x cs) : ∃ A2 c2 A22 c22 A23 c23 A27 c27, cs = [.int .u8 x.f0, .int .i64 x.f1, .slice A2 x.f2.length c2, .int .u32 x.f3, .int .u32 x.f4, .int .u8 x.f5.f0, .int .i64 x.f5.f1, .bool x.f5.f2, .int .i64 x.f5.f3.f0, .int .u32 x.f5.f3.f1, .int .u32 x.f5.f3.f2, .int .i64 x.f5.f3.f3, .int .u8 x.f5.f3.f4, .int .i64 x.f5.f3.f5, .bool x.f5.f3.f6, .bool x.f5.f3.f7, .int .u8 x.f5.f4, .int .u32 x.f5.f5, .int .u32 x.f5.f6, .int .i64 x.f5.f7, .int .u32 x.f5.f8, .int .i64 x.f5.f9, .slice A22 x.f5.f10.length c22, .slice A23 x.f5.f11.length c23, .int .i64 x.f6.f0, .int .i64 x.f6.f1, .int .u8 x.f6.f2, .slice A27 x.f6.f3.length c27, .int .i64 x.f7] ∧ x.f2.length ≤ c2 ∧ (Kd.int .u8).C w A2 x.f2.length x.f2 ∧ x.f5.f10.length ≤ c22 ∧ (Kd.int .u8).C w A22 x.f5.f10.length x.f5.f10 ∧ x.f5.f11.length ≤ c23 ∧ (Kd.int .u8).C w A23 x.f5.f11.length x.f5.f11 ∧ x.f6.f3.length ≤ c27 ∧ (Kd.int .u8).C w A27 x.f6.f3.length x.f6.f3 := by
  obtain ⟨_, _, rfl, rfl, ⟨_, _, rfl, rfl, ⟨_, _, rfl, ⟨A2, c2, rfl, l2, g2⟩, ⟨_, _, rfl, rfl, ⟨_, _, rfl, rfl, ⟨_, _, rfl, s5, ⟨_, _, rfl, s24, rfl⟩⟩⟩⟩⟩⟩⟩ := h
  obtain ⟨A22, c22, A23, c23, rfl, l22, g22, l23, g23⟩ := k134_open s5
  obtain ⟨A27, c27, rfl, l27, g27⟩ := k55_open s24
  exact ⟨A2, c2, A22, c22, A23, c23, A27, c27, rfl, l2, g2, l22, g22, l23, g23, l27, g27⟩
theorem k136_mkM (w : World) (base : Nat) (ok : Nat → Prop) (x : S136) {v2 : Value} (g2 : (Kd.int .u8).R 5 w base ok v2 x.f2) {v22 : Value} (g22 : (Kd.int .u8).R 5 w base ok v22 x.f5.f10) {v23 : Value} (g23 : (Kd.int .u8).R 5 w base ok v23 x.f5.f11) {v27 : Value} (g27 : (Kd.int .u8).R 5 w base ok v27 x.f6.f3) : k136.M w base ok x [.int .u8 x.f0, .int .i64 x.f1, v2, .int .u32 x.f3, .int .u32 x.f4, .int .u8 x.f5.f0, .int .i64 x.f5.f1, .bool x.f5.f2, .int .i64 x.f5.f3.f0, .int .u32 x.f5.f3.f1, .int .u32 x.f5.f3.f2, .int .i64 x.f5.f3.f3, .int .u8 x.f5.f3.f4, .int .i64 x.f5.f3.f5, .bool x.f5.f3.f6, .bool x.f5.f3.f7, .int .u8 x.f5.f4, .int .u32 x.f5.f5, .int .u32 x.f5.f6, .int .i64 x.f5.f7, .int .u32 x.f5.f8, .int .i64 x.f5.f9, v22, v23, .int .i64 x.f6.f0, .int .i64 x.f6.f1, .int .u8 x.f6.f2, v27, .int .i64 x.f7] := ⟨[.int .u8 x.f0], [.int .i64 x.f1, v2, .int .u32 x.f3, .int .u32 x.f4, .int .u8 x.f5.f0, .int .i64 x.f5.f1, .bool x.f5.f2, .int .i64 x.f5.f3.f0, .int .u32 x.f5.f3.f1, .int .u32 x.f5.f3.f2, .int .i64 x.f5.f3.f3, .int .u8 x.f5.f3.f4, .int .i64 x.f5.f3.f5, .bool x.f5.f3.f6, .bool x.f5.f3.f7, .int .u8 x.f5.f4, .int .u32 x.f5.f5, .int .u32 x.f5.f6, .int .i64 x.f5.f7, .int .u32 x.f5.f8, .int .i64 x.f5.f9, v22, v23, .int .i64 x.f6.f0, .int .i64 x.f6.f1, .int .u8 x.f6.f2, v27, .int .i64 x.f7], rfl, rfl, ⟨[.int .i64 x.f1], [v2, .int .u32 x.f3, .int .u32 x.f4, .int .u8 x.f5.f0, .int .i64 x.f5.f1, .bool x.f5.f2, .int .i64 x.f5.f3.f0, .int .u32 x.f5.f3.f1, .int .u32 x.f5.f3.f2, .int .i64 x.f5.f3.f3, .int .u8 x.f5.f3.f4, .int .i64 x.f5.f3.f5, .bool x.f5.f3.f6, .bool x.f5.f3.f7, .int .u8 x.f5.f4, .int .u32 x.f5.f5, .int .u32 x.f5.f6, .int .i64 x.f5.f7, .int .u32 x.f5.f8, .int .i64 x.f5.f9, v22, v23, .int .i64 x.f6.f0, .int .i64 x.f6.f1, .int .u8 x.f6.f2, v27, .int .i64 x.f7], rfl, rfl, ⟨[v2], [.int .u32 x.f3, .int .u32 x.f4, .int .u8 x.f5.f0, .int .i64 x.f5.f1, .bool x.f5.f2, .int .i64 x.f5.f3.f0, .int .u32 x.f5.f3.f1, .int .u32 x.f5.f3.f2, .int .i64 x.f5.f3.f3, .int .u8 x.f5.f3.f4, .int .i64 x.f5.f3.f5, .bool x.f5.f3.f6, .bool x.f5.f3.f7, .int .u8 x.f5.f4, .int .u32 x.f5.f5, .int .u32 x.f5.f6, .int .i64 x.f5.f7, .int .u32 x.f5.f8, .int .i64 x.f5.f9, v22, v23, .int .i64 x.f6.f0, .int .i64 x.f6.f1, .int .u8 x.f6.f2, v27, .int .i64 x.f7], rfl, ⟨v2, rfl, g2⟩, ⟨[.int .u32 x.f3], [.int .u32 x.f4, .int .u8 x.f5.f0, .int .i64 x.f5.f1, .bool x.f5.f2, .int .i64 x.f5.f3.f0, .int .u32 x.f5.f3.f1, .int .u32 x.f5.f3.f2, .int .i64 x.f5.f3.f3, .int .u8 x.f5.f3.f4, .int .i64 x.f5.f3.f5, .bool x.f5.f3.f6, .bool x.f5.f3.f7, .int .u8 x.f5.f4, .int .u32 x.f5.f5, .int .u32 x.f5.f6, .int .i64 x.f5.f7, .int .u32 x.f5.f8, .int .i64 x.f5.f9, v22, v23, .int .i64 x.f6.f0, .int .i64 x.f6.f1, .int .u8 x.f6.f2, v27, .int .i64 x.f7], rfl, rfl, ⟨[.int .u32 x.f4], [.int .u8 x.f5.f0, .int .i64 x.f5.f1, .bool x.f5.f2, .int .i64 x.f5.f3.f0, .int .u32 x.f5.f3.f1, .int .u32 x.f5.f3.f2, .int .i64 x.f5.f3.f3, .int .u8 x.f5.f3.f4, .int .i64 x.f5.f3.f5, .bool x.f5.f3.f6, .bool x.f5.f3.f7, .int .u8 x.f5.f4, .int .u32 x.f5.f5, .int .u32 x.f5.f6, .int .i64 x.f5.f7, .int .u32 x.f5.f8, .int .i64 x.f5.f9, v22, v23, .int .i64 x.f6.f0, .int .i64 x.f6.f1, .int .u8 x.f6.f2, v27, .int .i64 x.f7], rfl, rfl, ⟨[.int .u8 x.f5.f0, .int .i64 x.f5.f1, .bool x.f5.f2, .int .i64 x.f5.f3.f0, .int .u32 x.f5.f3.f1, .int .u32 x.f5.f3.f2, .int .i64 x.f5.f3.f3, .int .u8 x.f5.f3.f4, .int .i64 x.f5.f3.f5, .bool x.f5.f3.f6, .bool x.f5.f3.f7, .int .u8 x.f5.f4, .int .u32 x.f5.f5, .int .u32 x.f5.f6, .int .i64 x.f5.f7, .int .u32 x.f5.f8, .int .i64 x.f5.f9, v22, v23], [.int .i64 x.f6.f0, .int .i64 x.f6.f1, .int .u8 x.f6.f2, v27, .int .i64 x.f7], rfl, (k134_mkM w base ok x.f5 g22 g23), ⟨[.int .i64 x.f6.f0, .int .i64 x.f6.f1, .int .u8 x.f6.f2, v27], [.int .i64 x.f7], rfl, (k55_mkM w base ok x.f6 g27), rfl⟩⟩⟩⟩⟩⟩⟩
def rd_T136 (xs : List S136) (i : Int) : S136 := xs.getD i.toNat z136
theorem at_T136 {w : World} {A : Option Addr} {n : Nat} {xs : List S136} (h : Kd.C k136 w A n xs) (i : Int) (h0 : 0 ≤ i) (h1 : i < n) : ∃ ad A2 c2 A22 c22 A23 c23 A27 c27, A = some ad ∧ w.cell? (ad.add (i.toNat * 29)) = some (.int .u8 (rd_T136 xs i).f0) ∧ w.cell? ⟨(ad.add (i.toNat * 29)).block, (ad.add (i.toNat * 29)).off + 1, none⟩ = some (.int .i64 (rd_T136 xs i).f1) ∧ w.cell? ⟨(ad.add (i.toNat * 29)).block, (ad.add (i.toNat * 29)).off + 2, none⟩ = some (.slice A2 (rd_T136 xs i).f2.length c2) ∧ w.cell? ⟨(ad.add (i.toNat * 29)).block, (ad.add (i.toNat * 29)).off + 3, none⟩ = some (.int .u32 (rd_T136 xs i).f3) ∧ w.cell? ⟨(ad.add (i.toNat * 29)).block, (ad.add (i.toNat * 29)).off + 4, none⟩ = some (.int .u32 (rd_T136 xs i).f4) ∧ w.cell? ⟨(ad.add (i.toNat * 29)).block, (ad.add (i.toNat * 29)).off + 5, none⟩ = some (.int .u8 (rd_T136 xs i).f5.f0) ∧ w.cell? ⟨(ad.add (i.toNat * 29)).block, (ad.add (i.toNat * 29)).off + 6, none⟩ = some (.int .i64 (rd_T136 xs i).f5.f1) ∧ w.cell? ⟨(ad.add (i.toNat * 29)).block, (ad.add (i.toNat * 29)).off + 7, none⟩ = some (.bool (rd_T136 xs i).f5.f2) ∧ w.cell? ⟨(ad.add (i.toNat * 29)).block, (ad.add (i.toNat * 29)).off + 8, none⟩ = some (.int .i64 (rd_T136 xs i).f5.f3.f0) ∧ w.cell? ⟨(ad.add (i.toNat * 29)).block, (ad.add (i.toNat * 29)).off + 9, none⟩ = some (.int .u32 (rd_T136 xs i).f5.f3.f1) ∧ w.cell? ⟨(ad.add (i.toNat * 29)).block, (ad.add (i.toNat * 29)).off + 10, none⟩ = some (.int .u32 (rd_T136 xs i).f5.f3.f2) ∧ w.cell? ⟨(ad.add (i.toNat * 29)).block, (ad.add (i.toNat * 29)).off + 11, none⟩ = some (.int .i64 (rd_T136 xs i).f5.f3.f3) ∧ w.cell? ⟨(ad.add (i.toNat * 29)).block, (ad.add (i.toNat * 29)).off + 12, none⟩ = some (.int .u8 (rd_T136 xs i).f5.f3.f4) ∧ w.cell? ⟨(ad.add (i.toNat * 29)).block, (ad.add (i.toNat * 29)).off + 13, none⟩ = some (.int .i64 (rd_T136 xs i).f5.f3.f5) ∧ w.cell? ⟨(ad.add (i.toNat * 29)).block, (ad.add (i.toNat * 29)).off + 14, none⟩ = some (.bool (rd_T136 xs i).f5.f3.f6) ∧ w.cell? ⟨(ad.add (i.toNat * 29)).block, (ad.add (i.toNat * 29)).off + 15, none⟩ = some (.bool (rd_T136 xs i).f5.f3.f7) ∧ w.cell? ⟨(ad.add (i.toNat * 29)).block, (ad.add (i.toNat * 29)).off + 16, none⟩ = some (.int .u8 (rd_T136 xs i).f5.f4) ∧ w.cell? ⟨(ad.add (i.toNat * 29)).block, (ad.add (i.toNat * 29)).off + 17, none⟩ = some (.int .u32 (rd_T136 xs i).f5.f5) ∧ w.cell? ⟨(ad.add (i.toNat * 29)).block, (ad.add (i.toNat * 29)).off + 18, none⟩ = some (.int .u32 (rd_T136 xs i).f5.f6) ∧ w.cell? ⟨(ad.add (i.toNat * 29)).block, (ad.add (i.toNat * 29)).off + 19, none⟩ = some (.int .i64 (rd_T136 xs i).f5.f7) ∧ w.cell? ⟨(ad.add (i.toNat * 29)).block, (ad.add (i.toNat * 29)).off + 20, none⟩ = some (.int .u32 (rd_T136 xs i).f5.f8) ∧ w.cell? ⟨(ad.add (i.toNat * 29)).block, (ad.add (i.toNat * 29)).off + 21, none⟩ = some (.int .i64 (rd_T136 xs i).f5.f9) ∧ w.cell? ⟨(ad.add (i.toNat * 29)).block, (ad.add (i.toNat * 29)).off + 22, none⟩ = some (.slice A22 (rd_T136 xs i).f5.f10.length c22) ∧ w.cell? ⟨(ad.add (i.toNat * 29)).block, (ad.add (i.toNat * 29)).off + 23, none⟩ = some (.slice A23 (rd_T136 xs i).f5.f11.length c23) ∧ w.cell? ⟨(ad.add (i.toNat * 29)).block, (ad.add (i.toNat * 29)).off + 24, none⟩ = some (.int .i64 (rd_T136 xs i).f6.f0) ∧ w.cell? ⟨(ad.add (i.toNat * 29)).block, (ad.add (i.toNat * 29)).off + 25, none⟩ = some (.int .i64 (rd_T136 xs i).f6.f1) ∧ w.cell? ⟨(ad.add (i.toNat * 29)).block, (ad.add (i.toNat * 29)).off + 26, none⟩ = some (.int .u8 (rd_T136 xs i).f6.f2) ∧ w.cell? ⟨(ad.add (i.toNat * 29)).block, (ad.add (i.toNat * 29)).off + 27, none⟩ = some (.slice A27 (rd_T136 xs i).f6.f3.length c27) ∧ w.cell? ⟨(ad.add (i.toNat * 29)).block, (ad.add (i.toNat * 29)).off + 28, none⟩ = some (.int .i64 (rd_T136 xs i).f7) ∧ (rd_T136 xs i).f2.length ≤ c2 ∧ (Kd.int .u8).C w A2 (rd_T136 xs i).f2.length (rd_T136 xs i).f2 ∧ (rd_T136 xs i).f5.f10.length ≤ c22 ∧ (Kd.int .u8).C w A22 (rd_T136 xs i).f5.f10.length (rd_T136 xs i).f5.f10 ∧ (rd_T136 xs i).f5.f11.length ≤ c23 ∧ (Kd.int .u8).C w A23 (rd_T136 xs i).f5.f11.length (rd_T136 xs i).f5.f11 ∧ (rd_T136 xs i).f6.f3.length ≤ c27 ∧ (Kd.int .u8).C w A27 (rd_T136 xs i).f6.f3.length (rd_T136 xs i).f6.f3 := by
  obtain ⟨ad, c, e, _, hK, hc0⟩ := Kd.C_get h z136 i h0 h1
  have hc : ∀ j u, c[j]? = some u → w.cell? (ad.add (i.toNat * 29 + j)) = some u := hc0
  obtain ⟨A2, c2, A22, c22, A23, c23, A27, c27, rfl, l2, g2, l22, g22, l23, g23, l27, g27⟩ := k136_open hK
  exact ⟨ad, A2, c2, A22, c22, A23, c23, A27, c27, e, hc 0 _ rfl, by rw [← add_field _ _ 1 (by omega)]; exact hc 1 _ rfl, by rw [← add_field _ _ 2 (by omega)]; exact hc 2 _ rfl, by rw [← add_field _ _ 3 (by omega)]; exact hc 3 _ rfl, by rw [← add_field _ _ 4 (by omega)]; exact hc 4 _ rfl, by rw [← add_field _ _ 5 (by omega)]; exact hc 5 _ rfl, by rw [← add_field _ _ 6 (by omega)]; exact hc 6 _ rfl, by rw [← add_field _ _ 7 (by omega)]; exact hc 7 _ rfl, by rw [← add_field _ _ 8 (by omega)]; exact hc 8 _ rfl, by rw [← add_field _ _ 9 (by omega)]; exact hc 9 _ rfl, by rw [← add_field _ _ 10 (by omega)]; exact hc 10 _ rfl, by rw [← add_field _ _ 11 (by omega)]; exact hc 11 _ rfl, by rw [← add_field _ _ 12 (by omega)]; exact hc 12 _ rfl, by rw [← add_field _ _ 13 (by omega)]; exact hc 13 _ rfl, by rw [← add_field _ _ 14 (by omega)]; exact hc 14 _ rfl, by rw [← add_field _ _ 15 (by omega)]; exact hc 15 _ rfl, by rw [← add_field _ _ 16 (by omega)]; exact hc 16 _ rfl, by rw [← add_field _ _ 17 (by omega)]; exact hc 17 _ rfl, by rw [← add_field _ _ 18 (by omega)]; exact hc 18 _ rfl, by rw [← add_field _ _ 19 (by omega)]; exact hc 19 _ rfl, by rw [← add_field _ _ 20 (by omega)]; exact hc 20 _ rfl, by rw [← add_field _ _ 21 (by omega)]; exact hc 21 _ rfl, by rw [← add_field _ _ 22 (by omega)]; exact hc 22 _ rfl, by rw [← add_field _ _ 23 (by omega)]; exact hc 23 _ rfl, by rw [← add_field _ _ 24 (by omega)]; exact hc 24 _ rfl, by rw [← add_field _ _ 25 (by omega)]; exact hc 25 _ rfl, by rw [← add_field _ _ 26 (by omega)]; exact hc 26 _ rfl, by rw [← add_field _ _ 27 (by omega)]; exact hc 27 _ rfl, by rw [← add_field _ _ 28 (by omega)]; exact hc 28 _ rfl, l2, g2, l22, g22, l23, g23, l27, g27⟩
end Go.Proofs.Ytpbnppeodoflcaa.PDf
end
section
namespace Go.Proofs.Ytpbnppeodoflcaa.PPg
open Go.Proofs.Ytpbnppeodoflcaa.E
open Go.RowKit Go.Proofs.YtpbnppeodoflcaaW.PrintWords Go.Proofs.YtpbnppeodoflcaaW.PrintLast Go.Proofs.YtpbnppeodoflcaaW.PrintMore
attribute [local go_sem] max2_int min2_int max_two min_two max_three min_three max_four min_four   -- for this text's walks alone
set_option linter.unusedVariables false
set_option linter.unusedSimpArgs false
def errW : Option Int → Value
  | none => .nilIface
  | some c => .iface 0 (.int .i64 c)
theorem errW_none : errW none = .nilIface := rfl
theorem errW_some (c : Int) : errW (some c) = .iface 0 (.int .i64 c) := rfl
theorem info5 : (Try.prog.info? 5).map (fun i => (i.zero, i.size, i.bytes)) = some (some (.int .u8 0), 1, 1) := by kernel_rfl
end Go.Proofs.Ytpbnppeodoflcaa.PPg
end

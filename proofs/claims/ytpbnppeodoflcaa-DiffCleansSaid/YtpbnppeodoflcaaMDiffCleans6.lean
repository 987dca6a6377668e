/- Parts of the proof of DiffCleans, no condition: PDfx7, D7, D8, E15, E16, D9, D10, D11, D12, D13. -/
import Derived.Test.YtpbnppeodoflcaaMDiffCleans5
import Derived.Below
import Derived.Deep.Draws
import Derived.Deep.AppendLies
import Derived.Maps.AppendAt
import Derived.OwnWalk
import Derived.Laws.BytesArg
import Derived.Laws.MakeOwn
import Derived.Laws.OwnMore
import Derived.Deep.OwnRows
import Derived.Tactics
import Derived.Lib.ConvBytes
import Derived.Laws.Slices
import Derived.WalkKit
import Derived.KernelRfl
import Derived.RowKit3
import Derived.Deep.LoopGhost
import Derived.Deep.QuietTactic
import Derived.BigQuiet
import Derived.WideLaws
import Derived.Deep.DeepCutAuto
import Derived.Deep.CutBlock
import Derived.Deep.RegionHeld3
import Derived.Laws.Rows
import Derived.Lib.AppendStr
import Derived.ArgAppend
import Derived.Laws.IdiomCopy
import Derived.RowKit
import Derived.OrdersHeld
import Derived.Laws.BitsLemmas
import Derived.Laws.StructEq
import Derived.Test.YtpbnppeodoflcaaProg
import Derived.WalkLawsBesides
import Derived.WalkSpells
import Derived.Outline
import Derived.Laws.CopyOwn
import Derived.LoopN
import Derived.Deep.RegionLaw
import Derived.RangeFuncNested
import Derived.RangeFuncBound
import Derived.RangeFuncCalls
import Derived.RangeFuncLeaves
import Derived.Shelf.Abstract
import Derived.Shelf.RegionOpen
import Derived.OwnWalkIn
import Derived.TacticsInMore
import Derived.LoopNIn
import Derived.LoopIn
import Derived.Defers
import Derived.RegionTactic
import Derived.BigRegion
import Derived.Lib.SliceRun
section
namespace Go.Proofs.Ytpbnppeodoflcaa.PDf
open Go.Proofs.Ytpbnppeodoflcaa.E
open Go.RowKit Go.Proofs.YtpbnppeodoflcaaW.PrintWords Go.Proofs.YtpbnppeodoflcaaW.PrintLast Go.Proofs.YtpbnppeodoflcaaW.PrintMore
attribute [local go_sem] max2_int min2_int max_two min_two max_three min_three max_four min_four   -- for this text's walks alone
set_option linter.unusedVariables false
set_option linter.unusedSimpArgs false
mutual
def diff_asked.j0 : Nat → List (List Int) → Bool → Int → Int → Int → Int → Int → Int → Option (Int)
  | 0, _, _, _, _, _, _, _, _ => none
  | k + 1, x2, x23, x265000, x265001, x265002, x265003, x265004, x265005 => if x23 = true then (some 2) else (diff_asked.l0 k x2 (x2.length : Int) 0 x265000 x265001 x265002 x265003 x265004 x265005)
def diff_asked.l0 : Nat → List (List Int) → Int → Int → Int → Int → Int → Int → Int → Int → Option (Int)
  | 0, _, _, _, _, _, _, _, _, _ => none
  | k + 1, x24, x25, x26, x265000, x265001, x265002, x265003, x265004, x265005 => if x26 < x25 then (if 0 ≤ x26 then (if x26 < (x24.length : Int) then ((bits_Check.f x265001 (rd_L3 x24 x26)).bind fun t267 => (if t267 = 0 then (diff_asked.l0 k x24 x25 (wrap64 (x26 + 1)) x265000 x265001 x265002 x265003 x265004 x265005) else (some t267))) else (none)) else (none)) else (some 0)
end
def diff_asked.f (k : Nat) (a0_0 : Int) (a0_1 : Int) (a0_2 : Int) (a0_3 : Int) (a0_4 : Int) (a0_5 : Int) (a1 : Int) (l2 : List (List Int)) : Option (Int) := (place_Check.f a0_0 a0_1 a0_2 a0_3 a0_4 a0_5).bind fun t265 => (if t265 = 0 then (if a1 < 0 then (diff_asked.j0 k l2 true a0_0 a0_1 a0_2 a0_3 a0_4 a0_5) else (diff_asked.j0 k l2 (decide (a1 ≥ a0_0)) a0_0 a0_1 a0_2 a0_3 a0_4 a0_5)) else (some t265))
set_option maxHeartbeats 8000000 in
set_option maxRecDepth 100000 in
theorem diff_asked.calls (k : Nat) (a0_0 : Int) (a0_1 : Int) (a0_2 : Int) (a0_3 : Int) (a0_4 : Int) (a0_5 : Int) (a1 : Int) (A2 : Option Addr) (c2 : Nat) (l2 : List (List Int)) (r : Int) (w : World) (hr2 : Kd.C (Kd.slice 5 (Kd.int .u8)) w A2 l2.length l2) (hc2 : l2.length ≤ c2) (h : diff_asked.f k a0_0 a0_1 a0_2 a0_3 a0_4 a0_5 a1 l2 = some r) :
    Calls Try.prog 131 #[.agg #[.int .i64 a0_0, .int .i64 a0_1, .int .i64 a0_2, .int .i64 a0_3, .int .i64 a0_4, .int .i64 a0_5], .int .i64 a1, .slice A2 l2.length c2] w fun e w' => e = .returned (.int .i64 r) ∧ Below w.heap.size w w' := by
  have hu23 := Try.underlying23
  have HR2 := Aside0.mk hr2
  have HC2 := Aside0.mk hc2
  clear hr2 hc2
  have HB := Aside0.mk (Below.refl w.heap.size w)
  have H : ((place_Check.f a0_0 a0_1 a0_2 a0_3 a0_4 a0_5).bind fun t265 => (if t265 = 0 then (if a1 < 0 then (diff_asked.j0 k l2 true a0_0 a0_1 a0_2 a0_3 a0_4 a0_5) else (diff_asked.j0 k l2 (decide (a1 ≥ a0_0)) a0_0 a0_1 a0_2 a0_3 a0_4 a0_5)) else (some t265))) = some r := h
  clear h
  replace H := Option.bind_eq_some_iff.mp H
  obtain ⟨t265, A40, H⟩ := H
  replace H : (if t265 = 0 then (if a1 < 0 then (diff_asked.j0 k l2 true a0_0 a0_1 a0_2 a0_3 a0_4 a0_5) else (diff_asked.j0 k l2 (decide (a1 ≥ a0_0)) a0_0 a0_1 a0_2 a0_3 a0_4 a0_5)) else (some t265)) = some r := H
  have A4 := Aside0.mk A40
  clear A40
  by_cases c5 : t265 = 0
  · rw [if_pos c5] at H
    have c5b0 : (t265 == 0) = true := beq_iff_eq.mpr c5
    have c5b1 : (t265 != 0) = false := bne_eq_false_iff_eq.mpr c5
    clear c5
    have HC6 := Aside0.mk H
    clear H
    go_enter Try.func131, Try.ntmps131
    go_upto_region 4 with (first | ((with_reducible refine gate_dst (N := 3) rfl ?_); refine box_event ?hg (N := 3) ?hd (cs := #[.int .i64 a0_0, .int .i64 a0_1, .int .i64 a0_2, .int .i64 a0_3, .int .i64 a0_4, .int .i64 a0_5]) (t := 23) ?hr ?_; (case hd => rfl); (case hg => rfl); (case hr => first | (go_simp; done) | (go_simp; rfl)); intro gb264 hg w7 hbox hb; have n0_ := Aside0.mk (below_step (by repeat (first | (with_reducible first | exact HB.out | apply below_alloc | apply pw_below_drewN | apply below_drew1) | exact HB.out)) hb); have n1_ := Aside0.mk (hbox); have n2_ := Aside0.mk ((by rw [hg]; exact (below_size (by repeat (first | (with_reducible first | exact HB.out | apply below_alloc | apply pw_below_drewN | apply below_drew1) | exact HB.out))) : w.heap.size ≤ gb264)); have n3_ := Aside0.mk ((by rw [hg]; exact (below_size (by repeat (first | (with_reducible first | exact HB.out | apply below_alloc | apply pw_below_drewN | apply below_drew1) | exact HB.out))) : w.heap.size ≤ gb264)); clear HB; have HB := n0_; have BK264 := n1_; have GW264 := n2_; have GE264 := n3_; clear n0_ n1_ n2_ n3_; clear hb hbox hg; have hcz8_0 : w7.cell? ⟨gb264, 0, none⟩ = some (.int .i64 a0_0) := (blk_cell BK264.out 0).trans rfl; have hcz8_1 : w7.cell? ⟨gb264, 1, none⟩ = some (.int .i64 a0_1) := (blk_cell BK264.out 1).trans rfl; have hcz8_2 : w7.cell? ⟨gb264, 2, none⟩ = some (.int .i64 a0_2) := (blk_cell BK264.out 2).trans rfl; have hcz8_3 : w7.cell? ⟨gb264, 3, none⟩ = some (.int .i64 a0_3) := (blk_cell BK264.out 3).trans rfl; have hcz8_4 : w7.cell? ⟨gb264, 4, none⟩ = some (.int .i64 a0_4) := (blk_cell BK264.out 4).trans rfl; have hcz8_5 : w7.cell? ⟨gb264, 5, none⟩ = some (.int .i64 a0_5) := (blk_cell BK264.out 5).trans rfl; have hfz8_0 := blk_frozen BK264.out 0; have hfz8_1 := blk_frozen BK264.out 1; have hfz8_2 := blk_frozen BK264.out 2; have hfz8_3 := blk_frozen BK264.out 3; have hfz8_4 := blk_frozen BK264.out 4; have hfz8_5 := blk_frozen BK264.out 5) | ((with_reducible refine gate_callee (f := 120) rfl ?_); refine goesL_ (some 12) rfl rfl Try.func120 (by kernel_rfl) rfl #[.agg #[.int .i64 a0_0, .int .i64 a0_1, .int .i64 a0_2, .int .i64 a0_3, .int .i64 a0_4, .int .i64 a0_5]] rfl (by (try simp only [List.map_toArray, List.map_cons, List.map_nil]); first | done | rfl | (simp only [List.length_drop, List.length_take]; rfl)) ?_; (with_reducible refine (place_Check.calls a0_0 a0_1 a0_2 a0_3 a0_4 a0_5 t265 _ A4.out).mono ?_); rintro e w9 ⟨rfl, hb⟩; refine ⟨_, rfl, ?_⟩; have n0_ := Aside0.mk (blk_below (g := gb264) (o := .cells #[.int .i64 a0_0, .int .i64 a0_1, .int .i64 a0_2, .int .i64 a0_3, .int .i64 a0_4, .int .i64 a0_5] 23 (0, 0)) (by (with_reducible repeat (first | refine blk_drewN ?_ _ | refine blk_drew ?_ | refine blk_alloc ?_ _)); exact BK264.out) hb); have n1_ := Aside0.mk (below_step (by repeat (first | (with_reducible first | exact HB.out | apply below_alloc | apply pw_below_drewN | apply below_drew1 | refine below_set ?_ GE264.out) | exact HB.out)) hb); clear BK264; clear HB; have BK264 := n0_; have HB := n1_; clear n0_ n1_; (try clear hb); (try clear hb2); (try clear hk); (try clear hi)))
    (try simp only [Act.put, List.setIfInBounds_toArray, List.set_cons_zero, List.set_cons_succ])
    go_cut [23] (fun v23 wc => ∃ (kq : Nat) (x23_5 : Bool), v23 = .bool x23_5 ∧ Aside0 (diff_asked.j0 kq l2 x23_5 a0_0 a0_1 a0_2 a0_3 a0_4 a0_5 = some r) ∧ Aside0 (kq ≤ k) ∧ Aside0 (wc.heap[gb264]? = some (.cells #[.int .i64 a0_0, .int .i64 a0_1, .int .i64 a0_2, .int .i64 a0_3, .int .i64 a0_4, .int .i64 a0_5] 23 (0, 0))) ∧ Aside0 (Below w.heap.size w wc))
    case first =>
      have H := HC6.out
      clear HC6
      by_cases c10 : a1 < 0
      · rw [if_pos c10] at H
        have c10b0 : decide (a1 < 0) = true := decide_eq_true c10
        clear c10
        (first | rw [c10b0] | (simp only [i64_w, i32_w]; rw [c10b0]) | skip)
        have H' := Aside0.mk H
        clear H
        go_wp2
        go_meet
        case rel => exact ⟨_, (true), (by first | rfl | (simp; done) | (simp [*]; done)), H', ⟨by first | omega | exact Nat.le_refl _⟩, ⟨by (with_reducible repeat (first | refine blk_drewN ?_ _ | refine blk_drew ?_ | refine blk_alloc ?_ _)); exact BK264.out⟩, ⟨by repeat (first | (with_reducible first | exact HB.out | apply below_alloc | apply pw_below_drewN | apply below_drew1 | refine below_set ?_ GE264.out) | exact HB.out)⟩⟩
      · rw [if_neg c10] at H
        have c10b0 : decide (a1 < 0) = false := decide_eq_false c10
        clear c10
        (first | rw [c10b0] | (simp only [i64_w, i32_w]; rw [c10b0]) | skip)
        have H' := Aside0.mk H
        clear H
        have hcz11_0 : w9.cell? ⟨gb264, 0, none⟩ = some (.int .i64 a0_0) := (blk_cell BK264.out 0).trans rfl
        have hcz11_1 : w9.cell? ⟨gb264, 1, none⟩ = some (.int .i64 a0_1) := (blk_cell BK264.out 1).trans rfl
        have hcz11_2 : w9.cell? ⟨gb264, 2, none⟩ = some (.int .i64 a0_2) := (blk_cell BK264.out 2).trans rfl
        have hcz11_3 : w9.cell? ⟨gb264, 3, none⟩ = some (.int .i64 a0_3) := (blk_cell BK264.out 3).trans rfl
        have hcz11_4 : w9.cell? ⟨gb264, 4, none⟩ = some (.int .i64 a0_4) := (blk_cell BK264.out 4).trans rfl
        have hcz11_5 : w9.cell? ⟨gb264, 5, none⟩ = some (.int .i64 a0_5) := (blk_cell BK264.out 5).trans rfl
        have hfz11_0 := blk_frozen BK264.out 0
        have hfz11_1 := blk_frozen BK264.out 1
        have hfz11_2 := blk_frozen BK264.out 2
        have hfz11_3 := blk_frozen BK264.out 3
        have hfz11_4 := blk_frozen BK264.out 4
        have hfz11_5 := blk_frozen BK264.out 5
        go_wp2
        go_meet
        case rel => exact ⟨_, (decide (a1 ≥ a0_0)), (by first | rfl | (simp; done) | (simp [*]; done)), H', ⟨by first | omega | exact Nat.le_refl _⟩, ⟨by (with_reducible repeat (first | refine blk_drewN ?_ _ | refine blk_drew ?_ | refine blk_alloc ?_ _)); exact BK264.out⟩, ⟨by repeat (first | (with_reducible first | exact HB.out | apply below_alloc | apply pw_below_drewN | apply below_drew1 | refine below_set ?_ GE264.out) | exact HB.out)⟩⟩
    case rest =>
      clear HC6
      try clear c1
      try clear c2
      try clear p2
      try clear c5
      try clear c5b0
      try clear c5b1
      try clear c10
      try clear c10b0
      try clear hcz11_0
      try clear hcz11_1
      try clear hcz11_2
      try clear hcz11_3
      try clear hcz11_4
      try clear hcz11_5
      try clear hcz8_0
      try clear hcz8_1
      try clear hcz8_2
      try clear hcz8_3
      try clear hcz8_4
      try clear hcz8_5
      try clear hfz11_0
      try clear hfz11_1
      try clear hfz11_2
      try clear hfz11_3
      try clear hfz11_4
      try clear hfz11_5
      try clear hfz8_0
      try clear hfz8_1
      try clear hfz8_2
      try clear hfz8_3
      try clear hfz8_4
      try clear hfz8_5
      obtain ⟨kq, x23_5, rfl, HA, HJ5, BK264, HB⟩ := hcut
      cases kq with
      | zero => exact absurd HA.out (by simp [diff_asked.j0])
      | succ kj5 =>
        have H := HA.out
        clear HA
        simp only [diff_asked.j0] at H
        by_cases c12 : x23_5 = true
        · subst c12
          have H1 : (some 2) = some r := by rw [if_pos rfl] at H; exact H
          clear H
          have H := H1
          clear H1
          obtain rfl := Option.some.inj H
          go_wp2
          go_ret
          exact ⟨by first | rfl | (simp [errW_none, errW_some] <;> rfl) | (simp [*, errW_none, errW_some] <;> rfl), by repeat (first | (with_reducible first | exact HB.out | apply below_alloc | apply pw_below_drewN | apply below_drew1 | refine below_set ?_ GE264.out) | exact HB.out)⟩
        · replace c12 := Bool.eq_false_iff.mpr c12
          subst c12
          have H1 : (diff_asked.l0 kj5 l2 (l2.length : Int) 0 a0_0 a0_1 a0_2 a0_3 a0_4 a0_5) = some r := by rw [if_neg (show ¬ (false = true) by decide)] at H; exact H
          clear H
          have H := H1
          clear H1
          have H' := Aside0.mk H
          clear H
          go_wp2
          go_loopg [26] kj5 (fun kq v26 w' => ∃ (x26_2 : Int), v26 = .int .i64 x26_2 ∧ Aside0 (diff_asked.l0 kq l2 (l2.length : Int) x26_2 a0_0 a0_1 a0_2 a0_3 a0_4 a0_5 = some r) ∧ Aside0 (kq ≤ kj5) ∧ Aside0 (w'.heap[gb264]? = some (.cells #[.int .i64 a0_0, .int .i64 a0_1, .int .i64 a0_2, .int .i64 a0_3, .int .i64 a0_4, .int .i64 a0_5] 23 (0, 0))) ∧ Aside0 (Below w.heap.size w w'))
          case atStart => exact ⟨(0), (by first | rfl | (simp; done) | (simp [*]; done)), H', ⟨Nat.le_refl _⟩, ⟨by (with_reducible repeat (first | refine blk_drewN ?_ _ | refine blk_drew ?_ | refine blk_alloc ?_ _)); exact BK264.out⟩, ⟨by repeat (first | (with_reducible first | exact HB.out | apply below_alloc | apply pw_below_drewN | apply below_drew1 | refine below_set ?_ GE264.out) | exact HB.out)⟩⟩
          case round =>
            clear H'
            try clear c1
            try clear c2
            try clear p2
            try clear c5
            try clear c5b0
            try clear c5b1
            try clear c10
            try clear c10b0
            try clear c12
            try clear hcz11_0
            try clear hcz11_1
            try clear hcz11_2
            try clear hcz11_3
            try clear hcz11_4
            try clear hcz11_5
            try clear hcz8_0
            try clear hcz8_1
            try clear hcz8_2
            try clear hcz8_3
            try clear hcz8_4
            try clear hcz8_5
            try clear hfz11_0
            try clear hfz11_1
            try clear hfz11_2
            try clear hfz11_3
            try clear hfz11_4
            try clear hfz11_5
            try clear hfz8_0
            try clear hfz8_1
            try clear hfz8_2
            try clear hfz8_3
            try clear hfz8_4
            try clear hfz8_5
            try clear p2
            obtain ⟨x26_2, rfl, HA, HK2, BK264, HB⟩ := hrel
            cases gk with
            | zero => exact absurd HA.out (by simp [diff_asked.l0])
            | succ k2 =>
              have H := HA.out
              clear HA
              simp only [diff_asked.l0] at H
              by_cases c13 : x26_2 < (l2.length : Int)
              · rw [if_pos c13] at H
                have c13b0 : decide (x26_2 < (l2.length : Int)) = true := decide_eq_true c13
                clear c13
                by_cases c14 : 0 ≤ x26_2
                · rw [if_pos c14] at H
                  have c14b0 : decide (0 ≤ x26_2) = true := decide_eq_true c14
                  clear c14
                  by_cases c15 : x26_2 < (l2.length : Int)
                  · rw [if_pos c15] at H
                    have c15b0 : decide (x26_2 < (l2.length : Int)) = true := decide_eq_true c15
                    clear c15
                    replace H := Option.bind_eq_some_iff.mp H
                    obtain ⟨t267, A160, H⟩ := H
                    replace H : (if t267 = 0 then (diff_asked.l0 k2 l2 (l2.length : Int) (wrap64 (x26_2 + 1)) a0_0 a0_1 a0_2 a0_3 a0_4 a0_5) else (some t267)) = some r := H
                    have A16 := Aside0.mk A160
                    clear A160
                    by_cases c17 : t267 = 0
                    · rw [if_pos c17] at H
                      have c17b0 : (t267 == 0) = true := beq_iff_eq.mpr c17
                      have c17b1 : (t267 != 0) = false := bne_eq_false_iff_eq.mpr c17
                      clear c17
                      have H' := Aside0.mk H
                      clear H
                      have p266 : 0 ≤ (x26_2 : Int) := of_decide_eq_true (by first | (with_reducible assumption) | assumption)
                      have q266 : x26_2 < (l2.length : Int) := of_decide_eq_true (by first | (with_reducible assumption) | assumption)
                      obtain ⟨ad266, A266_0, c266_0, e266, hx266_0, hl266_0, hi266_0⟩ := at_L3 HR2.out x26_2 p266 q266
                      cases e266
                      replace hx266_0 := (HB.out.cell (World.block_lt_of_cell? w _ hx266_0)).trans hx266_0
                      have HR266_0 := Aside0.mk hi266_0
                      have HC266_0 := Aside0.mk hl266_0
                      clear hi266_0 hl266_0
                      replace p266 := eq_true p266
                      replace q266 := eq_true q266
                      have hcz18_0 : wr.cell? ⟨gb264, 0, none⟩ = some (.int .i64 a0_0) := (blk_cell BK264.out 0).trans rfl
                      have hcz18_1 : wr.cell? ⟨gb264, 1, none⟩ = some (.int .i64 a0_1) := (blk_cell BK264.out 1).trans rfl
                      have hcz18_2 : wr.cell? ⟨gb264, 2, none⟩ = some (.int .i64 a0_2) := (blk_cell BK264.out 2).trans rfl
                      have hcz18_3 : wr.cell? ⟨gb264, 3, none⟩ = some (.int .i64 a0_3) := (blk_cell BK264.out 3).trans rfl
                      have hcz18_4 : wr.cell? ⟨gb264, 4, none⟩ = some (.int .i64 a0_4) := (blk_cell BK264.out 4).trans rfl
                      have hcz18_5 : wr.cell? ⟨gb264, 5, none⟩ = some (.int .i64 a0_5) := (blk_cell BK264.out 5).trans rfl
                      have hfz18_0 := blk_frozen BK264.out 0
                      have hfz18_1 := blk_frozen BK264.out 1
                      have hfz18_2 := blk_frozen BK264.out 2
                      have hfz18_3 := blk_frozen BK264.out 3
                      have hfz18_4 := blk_frozen BK264.out 4
                      have hfz18_5 := blk_frozen BK264.out 5
                      go_wp2_with (first | ((with_reducible refine gate_callee (f := 62) rfl ?_); refine goesL_ (some 33) rfl rfl Try.func62 (by kernel_rfl) rfl #[.int .i64 a0_1, .slice A266_0 (rd_L3 l2 x26_2).length c266_0] rfl (by (try simp only [List.map_toArray, List.map_cons, List.map_nil]); first | done | rfl | (simp only [List.length_drop, List.length_take]; rfl)) ?_; (with_reducible refine (bits_Check.calls a0_1 _ _ (rd_L3 l2 x26_2) t267 _ ?side1 ?side2 A16.out).mono ?_); (case side1 => repeat (first | exact (Kd.C_below HR266_0.out HB.out) | (with_reducible refine Kd.C_alloc ?_ _) | (with_reducible refine Kd.C_drewN ?_ _) | (with_reducible refine Kd.C_drew ?_))); (case side2 => exact HC266_0.out); rintro e w19 ⟨rfl, hb⟩; refine ⟨_, rfl, ?_⟩; have n0_ := Aside0.mk (blk_below (g := gb264) (o := .cells #[.int .i64 a0_0, .int .i64 a0_1, .int .i64 a0_2, .int .i64 a0_3, .int .i64 a0_4, .int .i64 a0_5] 23 (0, 0)) (by (with_reducible repeat (first | refine blk_drewN ?_ _ | refine blk_drew ?_ | refine blk_alloc ?_ _)); exact BK264.out) hb); have n1_ := Aside0.mk (below_step (by repeat (first | (with_reducible first | exact HB.out | apply below_alloc | apply pw_below_drewN | apply below_drew1 | refine below_set ?_ GE264.out) | exact HB.out)) hb); clear BK264; clear HB; have BK264 := n0_; have HB := n1_; clear n0_ n1_; (try clear hb); (try clear hb2); (try clear hk); (try clear hi)))
                      go_roundg k2
                      case measure => have := HJ5.out; have := HK2.out; omega
                      case rel => exact ⟨(wrap64 (x26_2 + 1)), (by first | rfl | (simp; done) | (simp [*]; done)), H', ⟨by have := HJ5.out; have := HK2.out; omega⟩, ⟨by (with_reducible repeat (first | refine blk_drewN ?_ _ | refine blk_drew ?_ | refine blk_alloc ?_ _)); exact BK264.out⟩, ⟨by repeat (first | (with_reducible first | exact HB.out | apply below_alloc | apply pw_below_drewN | apply below_drew1 | refine below_set ?_ GE264.out) | exact HB.out)⟩⟩
                    · rw [if_neg c17] at H
                      have c17b0 : (t267 == 0) = false := beq_eq_false_iff_ne.mpr c17
                      have c17b1 : (t267 != 0) = true := bne_iff_ne.mpr c17
                      obtain rfl := Option.some.inj H
                      have p266 : 0 ≤ (x26_2 : Int) := of_decide_eq_true (by first | (with_reducible assumption) | assumption)
                      have q266 : x26_2 < (l2.length : Int) := of_decide_eq_true (by first | (with_reducible assumption) | assumption)
                      obtain ⟨ad266, A266_0, c266_0, e266, hx266_0, hl266_0, hi266_0⟩ := at_L3 HR2.out x26_2 p266 q266
                      cases e266
                      replace hx266_0 := (HB.out.cell (World.block_lt_of_cell? w _ hx266_0)).trans hx266_0
                      have HR266_0 := Aside0.mk hi266_0
                      have HC266_0 := Aside0.mk hl266_0
                      clear hi266_0 hl266_0
                      replace p266 := eq_true p266
                      replace q266 := eq_true q266
                      have hcz20_0 : wr.cell? ⟨gb264, 0, none⟩ = some (.int .i64 a0_0) := (blk_cell BK264.out 0).trans rfl
                      have hcz20_1 : wr.cell? ⟨gb264, 1, none⟩ = some (.int .i64 a0_1) := (blk_cell BK264.out 1).trans rfl
                      have hcz20_2 : wr.cell? ⟨gb264, 2, none⟩ = some (.int .i64 a0_2) := (blk_cell BK264.out 2).trans rfl
                      have hcz20_3 : wr.cell? ⟨gb264, 3, none⟩ = some (.int .i64 a0_3) := (blk_cell BK264.out 3).trans rfl
                      have hcz20_4 : wr.cell? ⟨gb264, 4, none⟩ = some (.int .i64 a0_4) := (blk_cell BK264.out 4).trans rfl
                      have hcz20_5 : wr.cell? ⟨gb264, 5, none⟩ = some (.int .i64 a0_5) := (blk_cell BK264.out 5).trans rfl
                      have hfz20_0 := blk_frozen BK264.out 0
                      have hfz20_1 := blk_frozen BK264.out 1
                      have hfz20_2 := blk_frozen BK264.out 2
                      have hfz20_3 := blk_frozen BK264.out 3
                      have hfz20_4 := blk_frozen BK264.out 4
                      have hfz20_5 := blk_frozen BK264.out 5
                      go_wp2_with (first | ((with_reducible refine gate_callee (f := 62) rfl ?_); refine goesL_ (some 33) rfl rfl Try.func62 (by kernel_rfl) rfl #[.int .i64 a0_1, .slice A266_0 (rd_L3 l2 x26_2).length c266_0] rfl (by (try simp only [List.map_toArray, List.map_cons, List.map_nil]); first | done | rfl | (simp only [List.length_drop, List.length_take]; rfl)) ?_; (with_reducible refine (bits_Check.calls a0_1 _ _ (rd_L3 l2 x26_2) t267 _ ?side1 ?side2 A16.out).mono ?_); (case side1 => repeat (first | exact (Kd.C_below HR266_0.out HB.out) | (with_reducible refine Kd.C_alloc ?_ _) | (with_reducible refine Kd.C_drewN ?_ _) | (with_reducible refine Kd.C_drew ?_))); (case side2 => exact HC266_0.out); rintro e w21 ⟨rfl, hb⟩; refine ⟨_, rfl, ?_⟩; have n0_ := Aside0.mk (blk_below (g := gb264) (o := .cells #[.int .i64 a0_0, .int .i64 a0_1, .int .i64 a0_2, .int .i64 a0_3, .int .i64 a0_4, .int .i64 a0_5] 23 (0, 0)) (by (with_reducible repeat (first | refine blk_drewN ?_ _ | refine blk_drew ?_ | refine blk_alloc ?_ _)); exact BK264.out) hb); have n1_ := Aside0.mk (below_step (by repeat (first | (with_reducible first | exact HB.out | apply below_alloc | apply pw_below_drewN | apply below_drew1 | refine below_set ?_ GE264.out) | exact HB.out)) hb); clear BK264; clear HB; have BK264 := n0_; have HB := n1_; clear n0_ n1_; (try clear hb); (try clear hb2); (try clear hk); (try clear hi)))
                      go_ret
                      exact ⟨by first | rfl | (simp [errW_none, errW_some] <;> rfl) | (simp [*, errW_none, errW_some] <;> rfl), by repeat (first | (with_reducible first | exact HB.out | apply below_alloc | apply pw_below_drewN | apply below_drew1 | refine below_set ?_ GE264.out) | exact HB.out)⟩
                  · rw [if_neg c15] at H
                    exact absurd H (by simp)
                · rw [if_neg c14] at H
                  exact absurd H (by simp)
              · rw [if_neg c13] at H
                have c13b0 : decide (x26_2 < (l2.length : Int)) = false := decide_eq_false c13
                clear c13
                obtain rfl := Option.some.inj H
                go_wp2
                go_ret
                exact ⟨by first | rfl | (simp [errW_none, errW_some] <;> rfl) | (simp [*, errW_none, errW_some] <;> rfl), by repeat (first | (with_reducible first | exact HB.out | apply below_alloc | apply pw_below_drewN | apply below_drew1 | refine below_set ?_ GE264.out) | exact HB.out)⟩
  · rw [if_neg c5] at H
    have c5b0 : (t265 == 0) = false := beq_eq_false_iff_ne.mpr c5
    have c5b1 : (t265 != 0) = true := bne_iff_ne.mpr c5
    obtain rfl := Option.some.inj H
    go_enter Try.func131, Try.ntmps131
    go_wp2_with (first | ((with_reducible refine gate_dst (N := 3) rfl ?_); refine box_event ?hg (N := 3) ?hd (cs := #[.int .i64 a0_0, .int .i64 a0_1, .int .i64 a0_2, .int .i64 a0_3, .int .i64 a0_4, .int .i64 a0_5]) (t := 23) ?hr ?_; (case hd => rfl); (case hg => rfl); (case hr => first | (go_simp; done) | (go_simp; rfl)); intro gb264 hg w22 hbox hb; have n0_ := Aside0.mk (below_step (by repeat (first | (with_reducible first | exact HB.out | apply below_alloc | apply pw_below_drewN | apply below_drew1) | exact HB.out)) hb); have n1_ := Aside0.mk (hbox); have n2_ := Aside0.mk ((by rw [hg]; exact (below_size (by repeat (first | (with_reducible first | exact HB.out | apply below_alloc | apply pw_below_drewN | apply below_drew1) | exact HB.out))) : w.heap.size ≤ gb264)); have n3_ := Aside0.mk ((by rw [hg]; exact (below_size (by repeat (first | (with_reducible first | exact HB.out | apply below_alloc | apply pw_below_drewN | apply below_drew1) | exact HB.out))) : w.heap.size ≤ gb264)); clear HB; have HB := n0_; have BK264 := n1_; have GW264 := n2_; have GE264 := n3_; clear n0_ n1_ n2_ n3_; clear hb hbox hg; have hcz23_0 : w22.cell? ⟨gb264, 0, none⟩ = some (.int .i64 a0_0) := (blk_cell BK264.out 0).trans rfl; have hcz23_1 : w22.cell? ⟨gb264, 1, none⟩ = some (.int .i64 a0_1) := (blk_cell BK264.out 1).trans rfl; have hcz23_2 : w22.cell? ⟨gb264, 2, none⟩ = some (.int .i64 a0_2) := (blk_cell BK264.out 2).trans rfl; have hcz23_3 : w22.cell? ⟨gb264, 3, none⟩ = some (.int .i64 a0_3) := (blk_cell BK264.out 3).trans rfl; have hcz23_4 : w22.cell? ⟨gb264, 4, none⟩ = some (.int .i64 a0_4) := (blk_cell BK264.out 4).trans rfl; have hcz23_5 : w22.cell? ⟨gb264, 5, none⟩ = some (.int .i64 a0_5) := (blk_cell BK264.out 5).trans rfl; have hfz23_0 := blk_frozen BK264.out 0; have hfz23_1 := blk_frozen BK264.out 1; have hfz23_2 := blk_frozen BK264.out 2; have hfz23_3 := blk_frozen BK264.out 3; have hfz23_4 := blk_frozen BK264.out 4; have hfz23_5 := blk_frozen BK264.out 5) | ((with_reducible refine gate_callee (f := 120) rfl ?_); refine goesL_ (some 12) rfl rfl Try.func120 (by kernel_rfl) rfl #[.agg #[.int .i64 a0_0, .int .i64 a0_1, .int .i64 a0_2, .int .i64 a0_3, .int .i64 a0_4, .int .i64 a0_5]] rfl (by (try simp only [List.map_toArray, List.map_cons, List.map_nil]); first | done | rfl | (simp only [List.length_drop, List.length_take]; rfl)) ?_; (with_reducible refine (place_Check.calls a0_0 a0_1 a0_2 a0_3 a0_4 a0_5 t265 _ A4.out).mono ?_); rintro e w24 ⟨rfl, hb⟩; refine ⟨_, rfl, ?_⟩; have n0_ := Aside0.mk (blk_below (g := gb264) (o := .cells #[.int .i64 a0_0, .int .i64 a0_1, .int .i64 a0_2, .int .i64 a0_3, .int .i64 a0_4, .int .i64 a0_5] 23 (0, 0)) (by (with_reducible repeat (first | refine blk_drewN ?_ _ | refine blk_drew ?_ | refine blk_alloc ?_ _)); exact BK264.out) hb); have n1_ := Aside0.mk (below_step (by repeat (first | (with_reducible first | exact HB.out | apply below_alloc | apply pw_below_drewN | apply below_drew1 | refine below_set ?_ GE264.out) | exact HB.out)) hb); clear BK264; clear HB; have BK264 := n0_; have HB := n1_; clear n0_ n1_; (try clear hb); (try clear hb2); (try clear hk); (try clear hi)))
    go_ret
    exact ⟨by first | rfl | (simp [errW_none, errW_some] <;> rfl) | (simp [*, errW_none, errW_some] <;> rfl), by repeat (first | (with_reducible first | exact HB.out | apply below_alloc | apply pw_below_drewN | apply below_drew1 | refine below_set ?_ GE264.out) | exact HB.out)⟩
end Go.Proofs.Ytpbnppeodoflcaa.PDf
end
section
namespace Go.Proofs.Ytpbnppeodoflcaa.E
open Go.RowKit Go.Proofs.Ytpbnppeodoflcaa.PDf Go.Proofs.Ytpbnppeodoflcaa.Pure Go.Proofs.YtpbnppeodoflcaaW.PrintWords Go.Proofs.YtpbnppeodoflcaaW.PrintLast Go.Proofs.YtpbnppeodoflcaaW.PrintMore
set_option linter.unusedVariables false
set_option linter.unusedSimpArgs false
theorem rows_two (W : World) (g : Nat) (A1 A2 : Option Addr) (c1 c2 : Nat) (l1 l2 : List Int) (hg : W.heap[g]? = some (.cells #[.slice A1 l1.length c1, .slice A2 l2.length c2] 24 (0, 0))) (h1 : Kd.C (Kd.int .u8) W A1 l1.length l1) (k1 : l1.length ≤ c1) (h2 : Kd.C (Kd.int .u8) W A2 l2.length l2) (k2 : l2.length ≤ c2) :
    Kd.C (Kd.slice 5 (Kd.int .u8)) W (some ⟨g, 0, none⟩) 2 [l1, l2] := by
  refine ⟨rfl, by decide, fun _ => ⟨_, rfl, fun j p hp => ?_⟩⟩
  rcases j with _ | _ | j
  · simp only [List.getElem?_cons_zero, Option.some.injEq] at hp
    subst hp
    refine ⟨[.slice A1 l1.length c1], rfl, ⟨A1, c1, rfl, k1, h1⟩, fun i u hu => ?_⟩
    rcases i with _ | i
    · simp only [List.getElem?_cons_zero, Option.some.injEq] at hu
      subst hu
      rw [add_plain]
      exact (blk_cell hg _).trans rfl
    · simp at hu
  · simp only [List.getElem?_cons_succ, List.getElem?_cons_zero, Option.some.injEq] at hp
    subst hp
    refine ⟨[.slice A2 l2.length c2], rfl, ⟨A2, c2, rfl, k2, h2⟩, fun i u hu => ?_⟩
    rcases i with _ | i
    · simp only [List.getElem?_cons_zero, Option.some.injEq] at hu
      subst hu
      rw [add_plain]
      exact (blk_cell hg _).trans rfl
    · simp at hu
  · simp at hp
theorem rows_one (W : World) (g : Nat) (A1 : Option Addr) (c1 : Nat) (l1 : List Int) (hg : W.heap[g]? = some (.cells #[.slice A1 l1.length c1] 24 (0, 0))) (h1 : Kd.C (Kd.int .u8) W A1 l1.length l1) (k1 : l1.length ≤ c1) :
    Kd.C (Kd.slice 5 (Kd.int .u8)) W (some ⟨g, 0, none⟩) 1 [l1] := by
  refine ⟨rfl, by decide, fun _ => ⟨_, rfl, fun j p hp => ?_⟩⟩
  rcases j with _ | j
  · simp only [List.getElem?_cons_zero, Option.some.injEq] at hp
    subst hp
    refine ⟨[.slice A1 l1.length c1], rfl, ⟨A1, c1, rfl, k1, h1⟩, fun i u hu => ?_⟩
    rcases i with _ | i
    · simp only [List.getElem?_cons_zero, Option.some.injEq] at hu
      subst hu
      rw [add_plain]
      exact (blk_cell hg _).trans rfl
    · simp at hu
  · simp at hp
def MarkPost (w : World) (r1 : List Int) (r2 : List Act_) (r3 : Int) (e : Ending) (w' : World) : Prop :=
  ∃ v0_ v1_ : Value, e = .returned (.tuple #[v0_, v1_, .int .i64 r3]) ∧ Kd.R (Kd.int .u8) 5 w' w.heap.size (fun _ => True) v0_ r1 ∧ Kd.S k136 136 w' w.heap.size (fun k_ => some k_ ≠ (v0_ : Value).ownBlock) v1_ r2 ∧ Below w.heap.size w w'
theorem MarkPost.nil {w w' : World} (e : Int) (h : Below w.heap.size w w') : MarkPost w [] [] e (.returned (.tuple #[.slice none 0 0, .slice none 0 0, .int .i64 e])) w' := ⟨_, _, rfl, Kd.R_nil _ _ _ _ _, Kd.S_nil _ _ _ _ _, h⟩
end Go.Proofs.Ytpbnppeodoflcaa.E
end
section
namespace Go.Proofs.Ytpbnppeodoflcaa.E
open Go.RowKit Go.Proofs.Ytpbnppeodoflcaa.PDf Go.Proofs.Ytpbnppeodoflcaa.Pure Go.Proofs.YtpbnppeodoflcaaW.PrintWords Go.Proofs.YtpbnppeodoflcaaW.PrintLast Go.Proofs.YtpbnppeodoflcaaW.PrintMore
set_option linter.unusedVariables false
set_option linter.unusedSimpArgs false
def cleanG (c0 : Int) (marks work : List Int) : Bool := (Lit.int .i64 c0).wf && decide (0 < marks.length) && decide (marks.length ≤ 100) && decide (marks.length ≤ work.length)
def diff_Clean.f (c0 c1 c2 c3 c4 c5 pr : Int) (marks work : List Int) : Option (List Int × List Act_ × Int) :=
  (diff_asked.f 10 c0 c1 c2 c3 c4 c5 pr [marks, work]).bind fun e => if e = 0 then (if cleanG c0 marks work = true then some ((anewS (askC (bothS marks work) marks) c0 c1 c2 c3 c4 c5 pr marks (bothS marks work)).1, (anewS (askC (bothS marks work) marks) c0 c1 c2 c3 c4 c5 pr marks (bothS marks work)).2, 0) else none) else some ([], [], e)
def fillG (c0 c1 : Int) (marks : List Int) : Bool := (Lit.int .i64 c0).wf && decide (0 < marks.length) && decide (marks.length ≤ 100) && decide (marks.length = (allB c1).length) && decide (1 ≤ c1 ∧ c1 ≤ 16)
def diff_Fill.f (c0 c1 c2 c3 c4 c5 pr : Int) (marks : List Int) : Option (List Int × List Act_ × Int) :=
  (diff_asked.f 10 c0 c1 c2 c3 c4 c5 pr [marks]).bind fun e => if e = 0 then (if fillG c0 c1 marks = true then some ((anewS (askC (allB c1) marks) c0 c1 c2 c3 c4 c5 pr marks (allB c1)).1, (anewS (askC (allB c1) marks) c0 c1 c2 c3 c4 c5 pr marks (allB c1)).2, 0) else none) else some ([], [], e)
set_option maxHeartbeats 8000000 in
set_option maxRecDepth 100000 in
theorem clean_any (c0 c1 c2 c3 c4 c5 pr : Int) (MA WA : Option Addr) (mc wc : Nat) (marks work : List Int) (r1 : List Int) (r2 : List Act_) (r3 : Int) (w : World) (hM : Kd.C (Kd.int .u8) w MA marks.length marks) (hMc : marks.length ≤ mc) (hW : Kd.C (Kd.int .u8) w WA work.length work) (hWc : work.length ≤ wc) (h : diff_Clean.f c0 c1 c2 c3 c4 c5 pr marks work = some (r1, r2, r3)) :
    Calls Try.prog 67 #[.agg #[.int .i64 c0, .int .i64 c1, .int .i64 c2, .int .i64 c3, .int .i64 c4, .int .i64 c5], .int .i64 pr, .slice MA marks.length mc, .slice WA work.length wc] w (MarkPost w r1 r2 r3) := by
  obtain ⟨e1, ha, h2⟩ := Option.bind_eq_some_iff.1 h
  have HM := Aside0.mk hM
  have HMc := Aside0.mk hMc
  have HW := Aside0.mk hW
  have HWc := Aside0.mk hWc
  have HA := Aside0.mk ha
  have H2 := Aside0.mk h2
  clear h h2 ha hM hMc hW hWc
  have hmf : ∀ (fn : Fn) (first cap : Array Value) (w : World), (Instr.makeFunc fn first cap).run Try.prog w = .ok (.func fn first cap) w := fun _ _ _ _ => rfl
  have b1 := blk_alloc (blk_alloc (heap_alloc_new w (.cells #[.int .i64 c0, .int .i64 c1, .int .i64 c2, .int .i64 c3, .int .i64 c4, .int .i64 c5] 23)) (.cells #[.slice MA marks.length mc] 24)) (.cells #[.slice MA marks.length mc, .slice WA work.length wc] 24)
  have b2 := blk_alloc (heap_alloc_new (w.alloc (.cells #[.int .i64 c0, .int .i64 c1, .int .i64 c2, .int .i64 c3, .int .i64 c4, .int .i64 c5] 23)) (.cells #[.slice MA marks.length mc] 24)) (.cells #[.slice MA marks.length mc, .slice WA work.length wc] 24)
  have b3 := heap_alloc_new ((w.alloc (.cells #[.int .i64 c0, .int .i64 c1, .int .i64 c2, .int .i64 c3, .int .i64 c4, .int .i64 c5] 23)).alloc (.cells #[.slice MA marks.length mc] 24)) (.cells #[.slice MA marks.length mc, .slice WA work.length wc] 24)
  have hB3 := below_alloc (below_alloc (below_alloc (Below.refl w.heap.size w) (.cells #[.int .i64 c0, .int .i64 c1, .int .i64 c2, .int .i64 c3, .int .i64 c4, .int .i64 c5] 23)) (.cells #[.slice MA marks.length mc] 24)) (.cells #[.slice MA marks.length mc, .slice WA work.length wc] 24)
  simp only [World.size_alloc] at b1 b2 b3
  have B1 := Aside0.mk b1
  have B2 := Aside0.mk b2
  have B3 := Aside0.mk b3
  have HB3 := Aside0.mk hB3
  clear b1 b2 b3 hB3
  go_enter Try.func67, Try.ntmps67
  go_wp2_with fail
  generalize ((w.alloc (.cells #[.int .i64 c0, .int .i64 c1, .int .i64 c2, .int .i64 c3, .int .i64 c4, .int .i64 c5] 23)).alloc (.cells #[.slice MA marks.length mc] 24)).alloc (.cells #[.slice MA marks.length mc, .slice WA work.length wc] 24) = W3 at B1 B2 B3 HB3 ⊢
  refine (diff_asked.calls 10 c0 c1 c2 c3 c4 c5 pr (some ⟨w.heap.size + 1 + 1, 0, none⟩) 2 [marks, work] e1 W3 (rows_two W3 _ MA WA mc wc marks work B3.out (Kd.C_below HM.out HB3.out) HMc.out (Kd.C_below HW.out HB3.out) HWc.out) (Nat.le_refl _) HA.out).mono ?_
  rintro e w4 ⟨rfl, hb⟩
  have HB4 := Aside0.mk (below_step HB3.out hb)
  have HX4 := Aside0.mk hb
  clear hb
  by_cases he : e1 = 0
  · subst he
    have h2 := H2.out
    rw [if_pos rfl] at h2
    by_cases hg : cleanG c0 marks work = true
    · rw [if_pos hg] at h2
      simp only [Option.some.injEq, Prod.mk.injEq] at h2
      obtain ⟨rfl, rfl, rfl⟩ := h2
      unfold cleanG at hg
      simp only [Bool.and_eq_true, decide_eq_true_eq] at hg
      obtain ⟨⟨⟨g1, g2⟩, g3⟩, g4⟩ := hg
      have G := Aside0.mk (And.intro g1 (And.intro g2 (And.intro g3 g4)))
      clear g1 g2 g3 g4 H2
      have hlen : marks.length = (bothS marks work).length := by simp [bothS, andTo]
      have HLEN := Aside0.mk hlen
      clear hlen
      have k1 : w4.cell? ⟨w.heap.size, 1, none⟩ = some (.int .i64 c1) := (blk_cell (blk_below B1.out HX4.out) 1).trans rfl
      have k2 : w4.cell? ⟨w.heap.size + 1, 0, none⟩ = some (.slice MA marks.length mc) := (blk_cell (blk_below B2.out HX4.out) 0).trans rfl
      go_wp2_with fail
      refine (both_any MA WA mc wc marks work w4 (Kd.C_below HM.out HB4.out) HMc.out (Kd.C_below HW.out HB4.out) G.out.2.2.2 G.out.2.1 (by have := G.out.2.2.1; omega)).mono ?_
      rintro e w5 ⟨vs, rfl, hr, hb⟩
      obtain ⟨As, cs, es⟩ := Kd.R_slice hr
      subst es
      have HX5 := Aside0.mk (below_alloc (below_step HX4.out hb) (.cells #[.slice As (bothS marks work).length cs] 24))
      have HB5 := Aside0.mk (below_alloc (below_step HB4.out hb) (.cells #[.slice As (bothS marks work).length cs] 24))
      have BI := Aside0.mk (heap_alloc_new w5 (.cells #[.slice As (bothS marks work).length cs] 24))
      have HR5 := Aside0.mk (Kd.R_alloc hr (.cells #[.slice As (bothS marks work).length cs] 24))
      clear hr hb k1 k2
      have b1 := blk_below B1.out HX5.out
      have BT5 := Aside0.mk (blk_below B2.out HX5.out)
      have m0 := (blk_cell b1 0).trans rfl
      have m1 := (blk_cell b1 1).trans rfl
      have m2 := (blk_cell b1 2).trans rfl
      have m3 := (blk_cell b1 3).trans rfl
      have m4 := (blk_cell b1 4).trans rfl
      have m5 := (blk_cell b1 5).trans rfl
      have n1 := (blk_cell BT5.out 0).trans rfl
      have n2 := (blk_cell BI.out 0).trans rfl
      clear b1
      go_wp2_with fail
      generalize w5.alloc (.cells #[.slice As (bothS marks work).length cs] 24) = W5 at HX5 HB5 BI HR5 BT5 ⊢
      refine (anew_any c0 c1 c2 c3 c4 c5 pr marks (bothS marks work) MA As mc cs W5 (askC (bothS marks work) marks) 134 (.pointer (some ⟨w5.heap.size, 0, none⟩)) (.pointer (some ⟨w.heap.size + 1, 0, none⟩)) (Kd.C_below HM.out HB5.out) HMc.out (Kd.R_reads' HR5.out).2.2 HLEN.out G.out.2.1 G.out.2.2.1 G.out.1 enter_clean (fun x W h0 hl hbw => ask_clean x As MA cs mc (bothS marks work) marks _ _ W ((blk_cell (blk_below BI.out hbw) 0).trans rfl) ((blk_cell (blk_below BT5.out hbw) 0).trans rfl) (Kd.C_below (Kd.R_reads' HR5.out).2.2 hbw) (Kd.C_below (Kd.C_below HM.out HB5.out) hbw) h0 (by rw [← HLEN.out]; exact hl) hl)).mono ?_
      rintro e w8 ⟨v0, v1, rfl, hr, hS, hb⟩
      clear m0 m1 m2 m3 m4 m5 n1 n2
      go_wp2
      refine bodyPost_ret (v := .tuple #[v0, v1, .int .i64 0]) (by simp [results, Try.results67, go_sem]) rfl ?_
      exact ⟨v0, v1, rfl, Kd.R_lower hr HB5.out.size, Kd.S_lower hS HB5.out.size, below_step HB5.out hb⟩
    · rw [if_neg hg] at h2
      simp at h2
  · have h2 := H2.out
    rw [if_neg he] at h2
    simp only [Option.some.injEq, Prod.mk.injEq] at h2
    obtain ⟨rfl, rfl, rfl⟩ := h2
    have d2 : (e1 != 0) = true := by simpa using he
    have d2' : (e1 == 0) = false := by simpa using he
    clear he
    go_wp2
    refine bodyPost_ret (v := .tuple #[.slice none 0 0, .slice none 0 0, .int .i64 e1]) (by simp [results, Try.results67, go_sem]) rfl ?_
    exact MarkPost.nil _ HB4.out
set_option maxHeartbeats 8000000 in
set_option maxRecDepth 100000 in
theorem fill_any (c0 c1 c2 c3 c4 c5 pr : Int) (MA : Option Addr) (mc : Nat) (marks : List Int) (r1 : List Int) (r2 : List Act_) (r3 : Int) (w : World) (hM : Kd.C (Kd.int .u8) w MA marks.length marks) (hMc : marks.length ≤ mc) (h : diff_Fill.f c0 c1 c2 c3 c4 c5 pr marks = some (r1, r2, r3)) :
    Calls Try.prog 69 #[.agg #[.int .i64 c0, .int .i64 c1, .int .i64 c2, .int .i64 c3, .int .i64 c4, .int .i64 c5], .int .i64 pr, .slice MA marks.length mc] w (MarkPost w r1 r2 r3) := by
  obtain ⟨e1, ha, h2⟩ := Option.bind_eq_some_iff.1 h
  have HM := Aside0.mk hM
  have HMc := Aside0.mk hMc
  have HA := Aside0.mk ha
  have H2 := Aside0.mk h2
  clear h h2 ha hM hMc
  have hmf : ∀ (fn : Fn) (first cap : Array Value) (w : World), (Instr.makeFunc fn first cap).run Try.prog w = .ok (.func fn first cap) w := fun _ _ _ _ => rfl
  have b1 := blk_alloc (blk_alloc (heap_alloc_new w (.cells #[.int .i64 c0, .int .i64 c1, .int .i64 c2, .int .i64 c3, .int .i64 c4, .int .i64 c5] 23)) (.cells #[.slice MA marks.length mc] 24)) (.cells #[.slice MA marks.length mc] 24)
  have b2 := blk_alloc (heap_alloc_new (w.alloc (.cells #[.int .i64 c0, .int .i64 c1, .int .i64 c2, .int .i64 c3, .int .i64 c4, .int .i64 c5] 23)) (.cells #[.slice MA marks.length mc] 24)) (.cells #[.slice MA marks.length mc] 24)
  have b3 := heap_alloc_new ((w.alloc (.cells #[.int .i64 c0, .int .i64 c1, .int .i64 c2, .int .i64 c3, .int .i64 c4, .int .i64 c5] 23)).alloc (.cells #[.slice MA marks.length mc] 24)) (.cells #[.slice MA marks.length mc] 24)
  have hB3 := below_alloc (below_alloc (below_alloc (Below.refl w.heap.size w) (.cells #[.int .i64 c0, .int .i64 c1, .int .i64 c2, .int .i64 c3, .int .i64 c4, .int .i64 c5] 23)) (.cells #[.slice MA marks.length mc] 24)) (.cells #[.slice MA marks.length mc] 24)
  simp only [World.size_alloc] at b1 b2 b3
  have B1 := Aside0.mk b1
  have B2 := Aside0.mk b2
  have B3 := Aside0.mk b3
  have HB3 := Aside0.mk hB3
  clear b1 b2 b3 hB3
  go_enter Try.func69, Try.ntmps69
  go_wp2_with fail
  generalize ((w.alloc (.cells #[.int .i64 c0, .int .i64 c1, .int .i64 c2, .int .i64 c3, .int .i64 c4, .int .i64 c5] 23)).alloc (.cells #[.slice MA marks.length mc] 24)).alloc (.cells #[.slice MA marks.length mc] 24) = W3 at B1 B2 B3 HB3 ⊢
  refine (diff_asked.calls 10 c0 c1 c2 c3 c4 c5 pr (some ⟨w.heap.size + 1 + 1, 0, none⟩) 1 [marks] e1 W3 (rows_one W3 _ MA mc marks B3.out (Kd.C_below HM.out HB3.out) HMc.out) (Nat.le_refl _) HA.out).mono ?_
  rintro e w4 ⟨rfl, hb⟩
  have HB4 := Aside0.mk (below_step HB3.out hb)
  have HX4 := Aside0.mk hb
  clear hb
  by_cases he : e1 = 0
  · subst he
    have h2 := H2.out
    rw [if_pos rfl] at h2
    by_cases hg : fillG c0 c1 marks = true
    · rw [if_pos hg] at h2
      simp only [Option.some.injEq, Prod.mk.injEq] at h2
      obtain ⟨rfl, rfl, rfl⟩ := h2
      unfold fillG at hg
      simp only [Bool.and_eq_true, decide_eq_true_eq] at hg
      obtain ⟨⟨⟨⟨g1, g2⟩, g3⟩, g4⟩, g5⟩ := hg
      have G := Aside0.mk (And.intro g1 (And.intro g2 (And.intro g3 (And.intro g4 g5))))
      clear g1 g2 g3 g4 g5 H2
      have hlen : marks.length = (allB c1).length := G.out.2.2.2.1
      have HLEN := Aside0.mk hlen
      clear hlen
      have k1 : w4.cell? ⟨w.heap.size, 1, none⟩ = some (.int .i64 c1) := (blk_cell (blk_below B1.out HX4.out) 1).trans rfl
      have k2 : w4.cell? ⟨w.heap.size + 1, 0, none⟩ = some (.slice MA marks.length mc) := (blk_cell (blk_below B2.out HX4.out) 0).trans rfl
      go_wp2_with fail
      refine (bits_All.calls c1 (allB c1) 0 w4 (by unfold bits_All.f; rw [if_pos G.out.2.2.2.2])).mono ?_
      rintro e w5 ⟨vs, rfl, hr, hb⟩
      obtain ⟨As, cs, es⟩ := Kd.R_slice hr
      subst es
      have HX5 := Aside0.mk (below_alloc (below_step HX4.out hb) (.cells #[.slice As (allB c1).length cs] 24))
      have HB5 := Aside0.mk (below_alloc (below_step HB4.out hb) (.cells #[.slice As (allB c1).length cs] 24))
      have BI := Aside0.mk (heap_alloc_new w5 (.cells #[.slice As (allB c1).length cs] 24))
      have HR5 := Aside0.mk (Kd.R_alloc hr (.cells #[.slice As (allB c1).length cs] 24))
      clear hr hb k1 k2
      have b1 := blk_below B1.out HX5.out
      have BT5 := Aside0.mk (blk_below B2.out HX5.out)
      have m0 := (blk_cell b1 0).trans rfl
      have m1 := (blk_cell b1 1).trans rfl
      have m2 := (blk_cell b1 2).trans rfl
      have m3 := (blk_cell b1 3).trans rfl
      have m4 := (blk_cell b1 4).trans rfl
      have m5 := (blk_cell b1 5).trans rfl
      have n1 := (blk_cell BT5.out 0).trans rfl
      have n2 := (blk_cell BI.out 0).trans rfl
      clear b1
      go_wp2_with fail
      generalize w5.alloc (.cells #[.slice As (allB c1).length cs] 24) = W5 at HX5 HB5 BI HR5 BT5 ⊢
      refine (anew_any c0 c1 c2 c3 c4 c5 pr marks (allB c1) MA As mc cs W5 (askC (allB c1) marks) 137 (.pointer (some ⟨w5.heap.size, 0, none⟩)) (.pointer (some ⟨w.heap.size + 1, 0, none⟩)) (Kd.C_below HM.out HB5.out) HMc.out (Kd.R_reads' HR5.out).2.2 HLEN.out G.out.2.1 G.out.2.2.1 G.out.1 enter_fill (fun x W h0 hl hbw => ask_fill x As MA cs mc (allB c1) marks _ _ W ((blk_cell (blk_below BI.out hbw) 0).trans rfl) ((blk_cell (blk_below BT5.out hbw) 0).trans rfl) (Kd.C_below (Kd.R_reads' HR5.out).2.2 hbw) (Kd.C_below (Kd.C_below HM.out HB5.out) hbw) h0 (by rw [← HLEN.out]; exact hl) hl)).mono ?_
      rintro e w8 ⟨v0, v1, rfl, hr, hS, hb⟩
      clear m0 m1 m2 m3 m4 m5 n1 n2
      go_wp2
      refine bodyPost_ret (v := .tuple #[v0, v1, .int .i64 0]) (by simp [results, Try.results69, go_sem]) rfl ?_
      exact ⟨v0, v1, rfl, Kd.R_lower hr HB5.out.size, Kd.S_lower hS HB5.out.size, below_step HB5.out hb⟩
    · rw [if_neg hg] at h2
      simp at h2
  · have h2 := H2.out
    rw [if_neg he] at h2
    simp only [Option.some.injEq, Prod.mk.injEq] at h2
    obtain ⟨rfl, rfl, rfl⟩ := h2
    have d2 : (e1 != 0) = true := by simpa using he
    have d2' : (e1 == 0) = false := by simpa using he
    clear he
    go_wp2
    refine bodyPost_ret (v := .tuple #[.slice none 0 0, .slice none 0 0, .int .i64 e1]) (by simp [results, Try.results69, go_sem]) rfl ?_
    exact MarkPost.nil _ HB4.out
theorem diff_Clean.calls (a0_0 a0_1 a0_2 a0_3 a0_4 a0_5 : Int) (a1 : Int) (A2 : Option Addr) (c2 : Nat) (l2 : List Int) (A3 : Option Addr) (c3 : Nat) (l3 : List Int) (r1 : List Int) (r2 : List (S136)) (r3 : Int) (w : World) (hr2 : Kd.C (Kd.int .u8) w A2 l2.length l2) (hc2 : l2.length ≤ c2) (hr3 : Kd.C (Kd.int .u8) w A3 l3.length l3) (hc3 : l3.length ≤ c3) (h : diff_Clean.f a0_0 a0_1 a0_2 a0_3 a0_4 a0_5 a1 l2 l3 = some (r1, r2, r3)) :
    Calls Try.prog 67 #[.agg #[.int .i64 a0_0, .int .i64 a0_1, .int .i64 a0_2, .int .i64 a0_3, .int .i64 a0_4, .int .i64 a0_5], .int .i64 a1, .slice A2 l2.length c2, .slice A3 l3.length c3] w fun e w' => ∃ v0_ v1_ : Value, e = .returned (.tuple #[v0_, v1_, .int .i64 r3]) ∧ Kd.R (Kd.int .u8) 5 w' w.heap.size (fun _ => True) v0_ r1 ∧ Kd.S k136 136 w' w.heap.size (fun k_ => some k_ ≠ (v0_ : Value).ownBlock) v1_ r2 ∧ Below w.heap.size w w' :=
  clean_any a0_0 a0_1 a0_2 a0_3 a0_4 a0_5 a1 A2 A3 c2 c3 l2 l3 r1 r2 r3 w hr2 hc2 hr3 hc3 h
theorem diff_Fill.calls (a0_0 a0_1 a0_2 a0_3 a0_4 a0_5 : Int) (a1 : Int) (A2 : Option Addr) (c2 : Nat) (l2 : List Int) (r1 : List Int) (r2 : List (S136)) (r3 : Int) (w : World) (hr2 : Kd.C (Kd.int .u8) w A2 l2.length l2) (hc2 : l2.length ≤ c2) (h : diff_Fill.f a0_0 a0_1 a0_2 a0_3 a0_4 a0_5 a1 l2 = some (r1, r2, r3)) :
    Calls Try.prog 69 #[.agg #[.int .i64 a0_0, .int .i64 a0_1, .int .i64 a0_2, .int .i64 a0_3, .int .i64 a0_4, .int .i64 a0_5], .int .i64 a1, .slice A2 l2.length c2] w fun e w' => ∃ v0_ v1_ : Value, e = .returned (.tuple #[v0_, v1_, .int .i64 r3]) ∧ Kd.R (Kd.int .u8) 5 w' w.heap.size (fun _ => True) v0_ r1 ∧ Kd.S k136 136 w' w.heap.size (fun k_ => some k_ ≠ (v0_ : Value).ownBlock) v1_ r2 ∧ Below w.heap.size w w' :=
  fill_any a0_0 a0_1 a0_2 a0_3 a0_4 a0_5 a1 A2 c2 l2 r1 r2 r3 w hr2 hc2 h
end Go.Proofs.Ytpbnppeodoflcaa.E
end
section
namespace Go.Proofs.Ytpbnppeodoflcaa.E
open Go.RowKit Go.Proofs.YtpbnppeodoflcaaW.PrintWords Go.Proofs.YtpbnppeodoflcaaW.PrintLast Go.Proofs.YtpbnppeodoflcaaW.PrintMore Go.Proofs.Ytpbnppeodoflcaa.K
set_option linter.unusedVariables false
set_option linter.unusedSimpArgs false
def addB (s : List Int) (t : Int) : List Int := s.set (t / 8).toNat (Go.bits .or .u8 (rd s (t / 8)) (shl .u8 1 (t % 8)))
def setF (s : List Int) (l : List Int) : List Int := l.foldl addB s
theorem addB_length (s : List Int) (t : Int) : (addB s t).length = s.length := by simp [addB]
theorem setF_length (l : List Int) : ∀ s : List Int, (setF s l).length = s.length := by
  induction l with
  | nil => intro s; rfl
  | cons t l ih => intro s; show (setF (addB s t) l).length = _; rw [ih, addB_length]
theorem setF_snoc (s l : List Int) (t : Int) : setF s (l ++ [t]) = addB (setF s l) t := by simp [setF]
end Go.Proofs.Ytpbnppeodoflcaa.E
end
section
namespace Go.Proofs.Ytpbnppeodoflcaa.E
open Go.RowKit Go.Proofs.YtpbnppeodoflcaaW.PrintWords Go.Proofs.YtpbnppeodoflcaaW.PrintLast Go.Proofs.YtpbnppeodoflcaaW.PrintMore Go.Proofs.Ytpbnppeodoflcaa.K
set_option linter.unusedVariables false
set_option linter.unusedSimpArgs false
theorem bitB_test (c j : Nat) : bitB (c : Int) j = c.testBit j := by
  unfold bitB
  rw [Int.toNat_natCast, Nat.testBit_eq_decide_div_mod_eq]
  rfl
theorem or_nat (a b : Nat) (ha : a < 256) (hb : b < 256) : Go.bits .or .u8 (a : Int) (b : Int) = ((a ||| b : Nat) : Int) := (bits_nat .u8 8 (by decide) wraps_u8 a b ha hb).2
theorem or_in {x y : Int} (hx : 0 ≤ x ∧ x < 256) (hy : 0 ≤ y ∧ y < 256) : 0 ≤ Go.bits .or .u8 x y ∧ Go.bits .or .u8 x y < 256 := by
  obtain ⟨a, rfl⟩ := Int.eq_ofNat_of_zero_le hx.1
  obtain ⟨b, rfl⟩ := Int.eq_ofNat_of_zero_le hy.1
  rw [or_nat a b (by omega) (by omega)]
  have : a ||| b < 2 ^ 8 := Nat.or_lt_two_pow (by omega) (by omega)
  omega
theorem or_bit {x y : Int} (hx : 0 ≤ x ∧ x < 256) (hy : 0 ≤ y ∧ y < 256) (j : Nat) : bitB (Go.bits .or .u8 x y) j = (bitB x j || bitB y j) := by
  obtain ⟨a, rfl⟩ := Int.eq_ofNat_of_zero_le hx.1
  obtain ⟨b, rfl⟩ := Int.eq_ofNat_of_zero_le hy.1
  rw [or_nat a b (by omega) (by omega), bitB_test, bitB_test, bitB_test, Nat.testBit_or]
theorem rd_zip (f : Int → Int → Int) : ∀ (a b : List Int) (i : Nat), i < a.length → b.length = a.length → rd (List.zipWith f a b) (i : Int) = f (rd a (i : Int)) (rd b (i : Int)) := by
  intro a b i hi hb
  unfold rd
  rw [Int.toNat_natCast, List.getD_eq_getElem?_getD, List.getD_eq_getElem?_getD, List.getD_eq_getElem?_getD, List.getElem?_eq_getElem (by simp; omega), List.getElem?_eq_getElem hi, List.getElem?_eq_getElem (by omega)]
  simp
theorem inS_zip (f : Int → Int → Int) (g : Bool → Bool → Bool) (hg : g false false = false) (hf : ∀ x y : Int, 0 ≤ x ∧ x < 256 → 0 ≤ y ∧ y < 256 → ∀ j, j < 8 → bitB (f x y) j = g (bitB x j) (bitB y j)) (a b : List Int) (ha : okB a = true) (hb : okB b = true) (hl : b.length = a.length) (t : Int) : inS (List.zipWith f a b) t = g (inS a t) (inS b t) := by
  unfold inS
  rw [List.length_zipWith, hl, Nat.min_self]
  by_cases h0 : 0 ≤ t
  · by_cases h1 : t / 8 < (a.length : Int)
    · obtain ⟨i, hi⟩ := Int.eq_ofNat_of_zero_le (show 0 ≤ t / 8 by omega)
      rw [decide_eq_true h0, decide_eq_true h1, hi, rd_zip f a b i (by omega) hl, hf _ _ (rd_nonneg ha _) (rd_nonneg hb _) _ (by omega)]
      simp
    · rw [decide_eq_false h1]; simp [hg]
  · rw [decide_eq_false h0]; simp [hg]
theorem okB_zip (f : Int → Int → Int) (hf : ∀ x y : Int, 0 ≤ x ∧ x < 256 → 0 ≤ y ∧ y < 256 → 0 ≤ f x y ∧ f x y < 256) : ∀ (a b : List Int), okB a = true → okB b = true → okB (List.zipWith f a b) = true := by
  intro a
  induction a with
  | nil => intro b _ _; rfl
  | cons x a ih =>
    intro b ha hb
    rcases b with _ | ⟨y, b⟩
    · rfl
    · have h1 := okB_mem ha x (by simp)
      have h2 := okB_mem hb y (by simp)
      have h3 := ih b (List.all_eq_true.2 fun z hz => by simpa using okB_mem ha z (by simp [hz])) (List.all_eq_true.2 fun z hz => by simpa using okB_mem hb z (by simp [hz]))
      show ((decide _) && (okB _)) = true
      rw [h3, Bool.and_true]
      exact decide_eq_true (hf x y h1 h2)
/-- Two rows of bytes of one length are alike if their bits are. -/
theorem ext_inS (a b : List Int) (ha : okB a = true) (hb : okB b = true) (hl : a.length = b.length) (h : ∀ t : Nat, inS a (t : Int) = inS b (t : Int)) : a = b := by
  apply List.ext_getElem hl
  intro i h1 h2
  have e1 : rd a (i : Int) = a[i] := by unfold rd; rw [Int.toNat_natCast, List.getD_eq_getElem?_getD, List.getElem?_eq_getElem h1]; rfl
  have e2 : rd b (i : Int) = b[i] := by unfold rd; rw [Int.toNat_natCast, List.getD_eq_getElem?_getD, List.getElem?_eq_getElem h2]; rfl
  rw [← e1, ← e2]
  have r1 := rd_nonneg ha (i : Int)
  have r2 := rd_nonneg hb (i : Int)
  obtain ⟨x, hx⟩ := Int.eq_ofNat_of_zero_le r1.1
  obtain ⟨y, hy⟩ := Int.eq_ofNat_of_zero_le r2.1
  rw [hx, hy]
  congr 1
  apply Nat.eq_of_testBit_eq
  intro j
  by_cases hj : j < 8
  · have := h (8 * i + j)
    unfold inS at this
    rw [show (((8 * i + j : Nat) : Int)) / 8 = (i : Int) from by omega, show ((((8 * i + j : Nat) : Int)) % 8).toNat = j from by omega, hx, hy, decide_eq_true (show (0 : Int) ≤ ((8 * i + j : Nat) : Int) by omega), decide_eq_true (show (i : Int) < a.length by omega), decide_eq_true (show (i : Int) < b.length by omega), bitB_test, bitB_test] at this
    simpa using this
  · rw [Nat.testBit_lt_two_pow (Nat.lt_of_lt_of_le (show x < 2 ^ 8 by omega) (Nat.pow_le_pow_right (by decide) (by omega))), Nat.testBit_lt_two_pow (Nat.lt_of_lt_of_le (show y < 2 ^ 8 by omega) (Nat.pow_le_pow_right (by decide) (by omega)))]
theorem rd_set (s : List Int) (i j : Nat) (v : Int) (hi : i < s.length) : rd (s.set i v) (j : Int) = if j = i then v else rd s (j : Int) := by
  unfold rd
  rw [Int.toNat_natCast, List.getD_eq_getElem?_getD, List.getD_eq_getElem?_getD, List.getElem?_set]
  by_cases h : i = j
  · subst h; simp [hi]
  · rw [if_neg h, if_neg (fun e => h e.symm)]
theorem one_bit : ∀ k : Nat, k < 8 → 0 ≤ shl .u8 1 (k : Int) ∧ shl .u8 1 (k : Int) < 256 ∧ ∀ j : Nat, j < 8 → bitB (shl .u8 1 (k : Int)) j = decide (j = k) := by decide +kernel
theorem okB_set {s : List Int} (hs : okB s = true) (i : Nat) {v : Int} (hv : 0 ≤ v ∧ v < 256) : okB (s.set i v) = true := by
  refine List.all_eq_true.2 fun x hx => ?_
  rcases List.mem_or_eq_of_mem_set hx with h | h
  · simpa using okB_mem hs x h
  · subst h; simpa using hv
theorem addB_ok {s : List Int} (hs : okB s = true) {t : Int} (h0 : 0 ≤ t) : okB (addB s t) = true := by
  obtain ⟨k, hk⟩ := Int.eq_ofNat_of_zero_le (show 0 ≤ t % 8 by omega)
  have hb := one_bit k (by omega)
  unfold addB
  rw [hk]
  exact okB_set hs _ (or_in (rd_nonneg hs _) ⟨hb.1, hb.2.1⟩)
theorem addB_in {s : List Int} (hs : okB s = true) {t : Int} (h0 : 0 ≤ t) (h1 : t / 8 < (s.length : Int)) (u : Int) : inS (addB s t) u = (inS s u || decide (u = t)) := by
  obtain ⟨k, hk⟩ := Int.eq_ofNat_of_zero_le (show 0 ≤ t % 8 by omega)
  obtain ⟨q, hq⟩ := Int.eq_ofNat_of_zero_le (show 0 ≤ t / 8 by omega)
  have hb := one_bit k (by omega)
  unfold inS
  rw [addB_length]
  by_cases u0 : 0 ≤ u
  · by_cases u1 : u / 8 < (s.length : Int)
    · obtain ⟨j, hj⟩ := Int.eq_ofNat_of_zero_le (show 0 ≤ u % 8 by omega)
      obtain ⟨i, hi⟩ := Int.eq_ofNat_of_zero_le (show 0 ≤ u / 8 by omega)
      rw [decide_eq_true u0, decide_eq_true u1]
      unfold addB
      rw [hk, hq, hi, hj, Int.toNat_natCast, rd_set s q i _ (by omega), Int.toNat_natCast]
      by_cases e : i = q
      · subst e
        rw [if_pos rfl, or_bit (rd_nonneg hs _) ⟨hb.1, hb.2.1⟩, hb.2.2 j (by omega)]
        simp only [Bool.true_and]
        congr 1
        exact decide_eq_decide.2 ⟨fun h => by omega, fun h => by omega⟩
      · rw [if_neg e, decide_eq_false (show ¬ u = t by omega)]
        simp
    · rw [decide_eq_false u1, decide_eq_false (show ¬ u = t by omega)]; simp
  · rw [decide_eq_false u0, decide_eq_false (show ¬ u = t by omega)]; simp
theorem setF_all (l : List Int) : ∀ (s : List Int), okB s = true → (∀ t ∈ l, 0 ≤ t ∧ t / 8 < (s.length : Int)) → okB (setF s l) = true ∧ ∀ u : Int, inS (setF s l) u = (inS s u || decide (u ∈ l)) := by
  induction l with
  | nil => intro s hs _; exact ⟨hs, fun u => by simp [setF]⟩
  | cons t l ih =>
    intro s hs h
    have ht := h t (by simp)
    have := ih (addB s t) (addB_ok hs ht.1) (fun x hx => by rw [addB_length]; exact h x (by simp [hx]))
    refine ⟨this.1, fun u => ?_⟩
    show inS (setF (addB s t) l) u = _
    rw [this.2 u, addB_in hs ht.1 ht.2]
    by_cases e : u = t <;> by_cases m : u ∈ l <;> simp [e, m]
theorem okB_zeros (m : Nat) : okB (List.replicate m 0) = true := List.all_eq_true.2 fun x hx => by rw [List.eq_of_mem_replicate hx]; decide
theorem inS_zeros (m : Nat) (u : Int) : inS (List.replicate m 0) u = false := by
  unfold inS rd
  have : ∀ i : Nat, (List.replicate m (0 : Int)).getD i 0 = 0 := by
    intro i
    rw [List.getD_eq_getElem?_getD, List.getElem?_replicate]
    split <;> rfl
  rw [this]
  have h2 : bitB 0 (u % 8).toNat = false := by unfold bitB; simp
  rw [h2, Bool.and_false]
end Go.Proofs.Ytpbnppeodoflcaa.E
end
section
namespace Go.Proofs.Ytpbnppeodoflcaa.PureD
open Go.RowKit Go.Proofs.Ytpbnppeodoflcaa.PDf Go.Proofs.Ytpbnppeodoflcaa.Pure Go.Proofs.Ytpbnppeodoflcaa.E Go.Proofs.YtpbnppeodoflcaaW.PrintWords Go.Proofs.YtpbnppeodoflcaaW.PrintLast Go.Proofs.YtpbnppeodoflcaaW.PrintMore
set_option linter.unusedVariables false
set_option linter.unusedSimpArgs false
theorem up {α : Type} {f : Nat → Option α} (hm : ∀ k, LeO (f k) (f (k + 1))) {a : Nat} {r : α} (h : f a = some r) : ∀ d, f (a + d) = some r
  | 0 => h
  | d + 1 => hm _ _ (up hm h d)
theorem in_f {s : List Int} (hs : okB s = true) {t : Int} (h0 : -1000 ≤ t) (h1 : t ≤ 1000) : q3_In.f s t = some (inS s t) := by
  unfold q3_In.f
  rw [if_pos hs, if_pos (by unfold i64B; simp; omega)]
theorem may03_loop (s : List Int) (hs : okB s = true) (hl : s.length ≤ 2) (d : Nat) : ∀ (k : Nat) (t : Nat), t ≤ 8 * s.length → 8 * s.length - t = d →
    catamaranref03_May.l0 (k + 10 + d) s (t : Int) = some ((List.range' t (8 * s.length - t)).all fun t => !inS s (t : Int)) := by
  induction d with
  | zero =>
    intro k t h0 hd
    rw [show k + 10 + 0 = (k + 9) + 1 from rfl]
    simp only [catamaranref03_May.l0]
    rw [wrap64_id (x := 8 * (s.length : Int)) (by omega) (by omega), if_neg (by omega), hd]
    rfl
  | succ d ih =>
    intro k t h0 hd
    rw [show k + 10 + (d + 1) = (k + 10 + d) + 1 from rfl]
    simp only [catamaranref03_May.l0]
    rw [wrap64_id (x := 8 * (s.length : Int)) (by omega) (by omega), if_pos (by omega), in_f hs (by omega) (by omega)]
    simp only [Option.bind_some]
    rw [show 8 * s.length - t = (8 * s.length - (t + 1)) + 1 from by omega, List.range'_succ, List.all_cons]
    cases hI : inS s (t : Int) with
    | true => rfl
    | false =>
      rw [if_neg (by simp), wrap64_id (x := (t : Int) + 1) (by omega) (by omega), show ((t : Int) + 1) = ((t + 1 : Nat) : Int) from by omega, ih k (t + 1) (by omega) (by omega)]
      rfl
theorem may03 (n : Int) (s : List Int) (hs : okB s = true) (k : Nat) : catamaranref03_May.f (k + 40) n s = some (mayS n s) := by
  unfold catamaranref03_May.f catamaranref03_Size.f mayS
  by_cases h0 : 1 ≤ n
  · rw [if_pos (by omega)]
    simp only [Option.bind_some]
    by_cases h1 : n ≤ 16
    · rw [if_pos (by simpa using h1), pages_tells h0 h1]
      rw [show k + 40 = (k + 39) + 1 from rfl]
      simp only [catamaranref03_May.j0]
      by_cases hl : (s.length : Int) = (n + 7) / 8
      · rw [if_neg (by simpa using hl)]
        obtain ⟨m, rfl⟩ := Int.eq_ofNat_of_zero_le (show 0 ≤ n by omega)
        have hd : 8 * s.length - m ≤ 16 := by omega
        have := may03_loop s hs (by omega) (8 * s.length - m) (k + 29 - (8 * s.length - m)) m (by omega) rfl
        rw [show k + 29 - (8 * s.length - m) + 10 + (8 * s.length - m) = k + 39 from by omega] at this
        rw [this]
        simp [h0, h1, hl]
      · rw [if_pos (by simpa using hl)]
        simp [hl]
    · rw [if_neg (by simpa using h1), show k + 40 = (k + 39) + 1 from rfl]
      simp only [catamaranref03_May.j0]
      simp [h1]
  · rw [if_neg (by omega)]
    simp only [Option.bind_some]
    rw [if_neg (by simp), show k + 40 = (k + 39) + 1 from rfl]
    simp only [catamaranref03_May.j0]
    simp [h0]
theorem may07 (c0 c1 c2 c3 c4 c5 : Int) (h0 : (Lit.int .i64 c0).wf = true) (k : Nat) : catamaranref07_May.f (k + 1) c0 c1 c2 c3 c4 c5 = some (decide (CfgOk c0 c1 c2 c3 c4 c5)) := may_tells c0 c1 c2 c3 c4 c5 h0 k
theorem ofpage (c0 c1 c2 c3 c4 c5 a1 a2 : Int) (hc : CfgOk c0 c1 c2 c3 c4 c5) (hP : PageOk c0 c1 a1 a2) : catamaranref07_OfPage.f c0 c1 c2 c3 c4 c5 a1 a2 = some (atS c0 c1 c2 a1 a2) := OfPage_tells c0 c1 c2 c3 c4 c5 a1 a2 hc hP
/-- The answer to the questions. -/
def askS (c0 c1 c2 c3 c4 c5 pr : Int) (l : List (List Int)) : Int := if CfgOk c0 c1 c2 c3 c4 c5 then (if pr < 0 ∨ c0 ≤ pr then 2 else (if (l.all fun s => ckS c1 s == 0) = true then 0 else 8)) else 8
theorem ckS_two {n : Int} {s : List Int} (hs : okB s = true) (h0 : 1 ≤ n) (h1 : n ≤ 16) : ckS n s = if mayS n s = true then 0 else 8 := by rw [ckS_may n s hs, if_pos ⟨h0, h1⟩]
theorem asked_ref (c0 c1 c2 c3 c4 c5 pr : Int) (a b : List Int) (h0 : (Lit.int .i64 c0).wf = true) (ha : okB a = true) (hb : okB b = true) (k : Nat) : catamaranref14_asked.f (k + 41) c0 c1 c2 c3 c4 c5 pr a b = some (askS c0 c1 c2 c3 c4 c5 pr [a, b]) := by
  unfold catamaranref14_asked.f askS
  rw [show k + 41 = (k + 40) + 1 from rfl, may07 c0 c1 c2 c3 c4 c5 h0]
  simp only [Option.bind_some, decide_eq_true_eq]
  by_cases hc : CfgOk c0 c1 c2 c3 c4 c5
  · rw [if_pos hc, if_pos hc]
    have hn := hc.2.1
    simp only [catamaranref14_asked.j0]
    rw [may03 c1 a ha, may03 c1 b hb]
    simp only [Option.bind_some, List.all_cons, List.all_nil, Bool.and_true, Bool.and_eq_true, beq_iff_eq]
    rw [ckS_two ha hn.1 hn.2, ckS_two hb hn.1 hn.2]
    by_cases p1 : pr < 0
    · rw [if_pos p1, if_pos (Or.inl p1)]; simp
    · rw [if_neg p1]
      by_cases p2 : c0 ≤ pr
      · rw [if_pos (Or.inr p2), if_pos (by simpa using p2)]
      · rw [if_neg (show ¬ (decide (pr ≥ c0) = true) from by simpa using p2), if_neg (show ¬ (pr < 0 ∨ c0 ≤ pr) from by omega)]
        cases mayS c1 a <;> cases mayS c1 b <;> simp
  · rw [if_neg hc, if_neg hc]
theorem asked_loop (c0 c1 c2 c3 c4 c5 : Int) (l : List (List Int)) (hn : 1 ≤ c1 ∧ c1 ≤ 16) (hl : l.length ≤ 3) (hok : ∀ s ∈ l, okB s = true) (d : Nat) : ∀ (k i : Nat), i + d = l.length → d < k →
    diff_asked.l0 k l (l.length : Int) (i : Int) c0 c1 c2 c3 c4 c5 = some (if ((l.drop i).all fun s => ckS c1 s == 0) = true then 0 else 8) := by
  induction d with
  | zero =>
    intro k i hi hk
    obtain ⟨k, rfl⟩ : ∃ m, k = m + 1 := ⟨k - 1, by omega⟩
    simp only [diff_asked.l0]
    rw [if_neg (by omega), List.drop_of_length_le (by omega)]
    rfl
  | succ d ih =>
    intro k i hi hk
    obtain ⟨k, rfl⟩ : ∃ m, k = m + 1 := ⟨k - 1, by omega⟩
    simp only [diff_asked.l0]
    rw [if_pos (by omega), if_pos (by omega), if_pos (by omega)]
    have hlt : i < l.length := by omega
    have hrd : rd_L3 l (i : Int) = l[i] := by
      unfold rd_L3
      rw [Int.toNat_natCast, List.getD_eq_getElem?_getD, List.getElem?_eq_getElem hlt]
      rfl
    rw [hrd, show bits_Check.f c1 l[i] = some (ckS c1 l[i]) from rfl]
    simp only [Option.bind_some]
    rw [List.drop_eq_getElem_cons hlt, List.all_cons, ckS_two (hok _ (List.getElem_mem hlt)) hn.1 hn.2]
    cases mayS c1 l[i] with
    | true =>
      rw [if_pos rfl, if_pos rfl, wrap64_id (by omega) (by omega), show ((i : Int) + 1) = ((i + 1 : Nat) : Int) from by omega, ih k (i + 1) (by omega) (by omega)]
      simp
    | false => simp
theorem asked_own (c0 c1 c2 c3 c4 c5 pr : Int) (l : List (List Int)) (h0 : (Lit.int .i64 c0).wf = true) (hl : l.length ≤ 3) (hok : ∀ s ∈ l, okB s = true) : diff_asked.f 10 c0 c1 c2 c3 c4 c5 pr l = some (askS c0 c1 c2 c3 c4 c5 pr l) := by
  unfold diff_asked.f askS
  rw [show place_Check.f c0 c1 c2 c3 c4 c5 = some (cfgS c0 c1 c2 c3 c4 c5) from rfl, cfg_tells c0 c1 c2 c3 c4 c5 h0]
  simp only [Option.bind_some]
  by_cases hc : CfgOk c0 c1 c2 c3 c4 c5
  · rw [if_pos hc, if_pos rfl, if_pos hc]
    simp only [diff_asked.j0]
    have hloop := asked_loop c0 c1 c2 c3 c4 c5 l hc.2.1 hl hok l.length 9 0 (by omega) (by omega)
    rw [show ((0 : Nat) : Int) = 0 from rfl, List.drop_zero] at hloop
    by_cases p1 : pr < 0
    · rw [if_pos p1, if_pos (Or.inl p1)]; rfl
    · rw [if_neg p1]
      by_cases p2 : c0 ≤ pr
      · rw [if_pos (Or.inr p2), if_pos (by simpa using p2)]
      · rw [if_neg (show ¬ (decide (pr ≥ c0) = true) from by simpa using p2), if_neg (show ¬ (pr < 0 ∨ c0 ≤ pr) from by omega), hloop]
  · rw [if_neg hc, if_neg hc, if_neg (by decide)]
/-- Those that are told. -/
def pick (l : List Bool) (m : Nat) : List Int := ((List.range m).filter fun t => l.getD t false).map fun t : Nat => (t : Int)
theorem pick_succ (l : List Bool) (m : Nat) : pick l (m + 1) = if l.getD m false = true then pick l m ++ [(m : Int)] else pick l m := by
  unfold pick
  rw [List.range_succ, List.filter_append]
  rw [List.map_append, List.filter_cons, List.filter_nil]
  cases l.getD m false <;> simp
theorem mem_pick (l : List Bool) (m : Nat) (u : Int) : u ∈ pick l m ↔ ∃ t : Nat, t < m ∧ l.getD t false = true ∧ u = (t : Int) := by
  unfold pick
  simp only [List.mem_map, List.mem_filter, List.mem_range]
  constructor
  · rintro ⟨t, ⟨h1, h2⟩, rfl⟩; exact ⟨t, h1, h2, rfl⟩
  · rintro ⟨t, h1, h2, rfl⟩; exact ⟨t, ⟨h1, h2⟩, rfl⟩
def madeS (n : Nat) (l : List Bool) : List Int := setF (List.replicate ((n + 7) / 8) 0) (pick l n)
theorem power10 : ∀ j : Nat, j < 8 → catamaranref03_power.f 10 (j : Int) = some ((2 ^ j : Nat) : Int) := by decide +kernel
theorem power_f (k : Nat) {j : Nat} (hj : j < 8) : catamaranref03_power.f (10 + k) (j : Int) = some ((2 ^ j : Nat) : Int) := up (fun k => catamaranref03_power.mono (j : Int) k) (power10 j hj) k
theorem byte_add : ∀ x : Nat, x < 256 → ∀ j : Nat, j < 8 → bitB (x : Int) j = false → ((x : Int) + ((2 ^ j : Nat) : Int) % 256) % 256 = Go.bits .or .u8 (x : Int) (shl .u8 1 (j : Int)) := by decide +kernel
theorem made_step (k n t : Nat) (l : List Bool) (S : List Int) (ht : t < n) (hn : n ≤ 16) (hl : l.length = n) :
    catamaranref03_Made.l0 (k + 1) (n : Int) l S (t : Int) = if l.getD t false = true then (if ((t / 8 : Nat) : Int) < (S.length : Int) then ((catamaranref03_power.f k ((t % 8 : Nat) : Int)).bind fun p => catamaranref03_Made.l0 k (n : Int) l (S.set (((t / 8 : Nat) : Int)).toNat ((rd S ((t / 8 : Nat) : Int) + p % 256) % 256)) ((t + 1 : Nat) : Int)) else none) else catamaranref03_Made.l0 k (n : Int) l S ((t + 1 : Nat) : Int) := by
  have e1 : (t : Int).tdiv 8 = ((t / 8 : Nat) : Int) := by rw [Int.tdiv_eq_ediv_of_nonneg (by omega)]; omega
  have e2 : (t : Int).tmod 8 = ((t % 8 : Nat) : Int) := by rw [Int.tmod_eq_emod_of_nonneg (by omega)]; omega
  have e3 : wrap64 ((t / 8 : Nat) : Int) = ((t / 8 : Nat) : Int) := wrap64_id (by omega) (by omega)
  have e4 : wrap64 ((t : Int) + 1) = ((t + 1 : Nat) : Int) := by rw [wrap64_id (by omega) (by omega)]; omega
  have hrd : rdOf false l (t : Int) = l.getD t false := by unfold rdOf; rw [Int.toNat_natCast]
  have c1 : (t : Int) < (n : Int) := by omega
  have c2 : (0 : Int) ≤ (t : Int) := by omega
  have c3 : (t : Int) < (l.length : Int) := by omega
  have c4 : (0 : Int) ≤ ((t / 8 : Nat) : Int) := by omega
  show (if (t : Int) < (n : Int) then _ else _) = _
  rw [if_pos c1, if_pos c2, if_pos c3, hrd, e1, e2, e3, e4, if_pos c4]
theorem made_loop (n : Nat) (hn : 1 ≤ n ∧ n ≤ 16) (l : List Bool) (hl : l.length = n) (d : Nat) : ∀ (k t : Nat), t + d = n → d + 12 ≤ k →
    catamaranref03_Made.l0 k (n : Int) l (setF (List.replicate ((n + 7) / 8) 0) (pick l t)) (t : Int) = some (madeS n l) := by
  induction d with
  | zero =>
    intro k t ht hk
    obtain ⟨k, rfl⟩ : ∃ m, k = m + 1 := ⟨k - 1, by omega⟩
    show (if (t : Int) < (n : Int) then _ else _) = _
    rw [if_neg (by omega), show t = n from by omega]
    rfl
  | succ d ih =>
    intro k t ht hk
    obtain ⟨k, rfl⟩ : ∃ m, k = m + 1 := ⟨k - 1, by omega⟩
    have hz := setF_all (pick l t) (List.replicate ((n + 7) / 8) 0) (okB_zeros _) (by
      intro x hx
      obtain ⟨u, h1, _, rfl⟩ := (mem_pick l t x).1 hx
      simp
      omega)
    have hlen : (setF (List.replicate ((n + 7) / 8) 0) (pick l t)).length = (n + 7) / 8 := by rw [setF_length]; simp
    have hstep := ih k (t + 1) (by omega) (by omega)
    rw [pick_succ] at hstep
    have hno : inS (setF (List.replicate ((n + 7) / 8) 0) (pick l t)) (t : Int) = false := by
      rw [hz.2, inS_zeros]
      simp only [Bool.false_or, decide_eq_false_iff_not]
      intro h
      obtain ⟨u, h1, _, h2⟩ := (mem_pick l t _).1 h
      omega
    have hset : l.getD t false = true → setF (List.replicate ((n + 7) / 8) 0) (pick l t ++ [(t : Int)]) = addB (setF (List.replicate ((n + 7) / 8) 0) (pick l t)) (t : Int) := fun _ => setF_snoc _ _ _
    rw [made_step k n t l _ (by omega) hn.2 hl]
    have hp : catamaranref03_power.f k ((t % 8 : Nat) : Int) = some ((2 ^ (t % 8) : Nat) : Int) := by
      have := power_f (k - 10) (Nat.mod_lt t (show 0 < 8 by decide))
      rw [show 10 + (k - 10) = k from by omega] at this
      exact this
    rw [hp]
    have hok := hz.1
    clear hz ih hp
    cases hb : l.getD t false with
    | false =>
      rw [if_neg (by simp)]
      rw [if_neg (by rw [hb]; simp)] at hstep
      exact hstep
    | true =>
      rw [if_pos (by rw [hb]), hset hb] at hstep
      generalize setF (List.replicate ((n + 7) / 8) 0) (pick l t) = S at hlen hstep hno hok ⊢
      rw [if_pos rfl, if_pos (show ((t / 8 : Nat) : Int) < (S.length : Int) by rw [hlen]; omega)]
      have hr := rd_nonneg hok ((t / 8 : Nat) : Int)
      obtain ⟨x, hx⟩ := Int.eq_ofNat_of_zero_le hr.1
      have hbit : bitB (x : Int) (t % 8) = false := by
        unfold inS at hno
        rw [decide_eq_true (show (0 : Int) ≤ (t : Int) by omega), show (t : Int) / 8 = ((t / 8 : Nat) : Int) from by omega, decide_eq_true (show ((t / 8 : Nat) : Int) < (S.length : Int) by rw [hlen]; omega), hx, show ((t : Int) % 8).toNat = t % 8 from by omega] at hno
        simpa using hno
      have hadd : addB S (t : Int) = S.set (((t / 8 : Nat) : Int)).toNat ((rd S ((t / 8 : Nat) : Int) + ((2 ^ (t % 8) : Nat) : Int) % 256) % 256) := by
        unfold addB
        rw [show (t : Int) / 8 = ((t / 8 : Nat) : Int) from by omega, show (t : Int) % 8 = ((t % 8 : Nat) : Int) from by omega, hx, byte_add x (by omega) (t % 8) (Nat.mod_lt _ (by decide)) hbit]
      rw [hadd] at hstep
      exact hstep
theorem made_f (n : Nat) (hn : 1 ≤ n ∧ n ≤ 16) (l : List Bool) (hl : l.length = n) (k : Nat) : catamaranref03_Made.f (k + 30) (n : Int) l = some (madeS n l) := by
  unfold catamaranref03_Made.f
  rw [pages_tells (by omega) (by omega), if_pos (by omega), if_pos (by omega), show (((n : Int) + 7) / 8).toNat = (n + 7) / 8 from by omega]
  exact made_loop n hn l hl n (k + 30) 0 (by omega) (by omega)
theorem madeS_ok (n : Nat) (l : List Bool) (hn : 1 ≤ n) : okB (madeS n l) = true ∧ (madeS n l).length = (n + 7) / 8 ∧ ∀ u : Nat, inS (madeS n l) (u : Int) = (decide (u < n) && l.getD u false) := by
  have hz := setF_all (pick l n) (List.replicate ((n + 7) / 8) 0) (okB_zeros _) (by
    intro x hx
    obtain ⟨u, h1, _, rfl⟩ := (mem_pick l n x).1 hx
    simp
    omega)
  refine ⟨hz.1, by unfold madeS; rw [setF_length]; simp, fun u => ?_⟩
  show inS (setF _ _) _ = _
  rw [hz.2, inS_zeros, Bool.false_or]
  rw [Bool.eq_iff_iff]
  simp only [decide_eq_true_eq, Bool.and_eq_true]
  rw [mem_pick]
  constructor
  · rintro ⟨t, h1, h2, h3⟩
    obtain rfl : u = t := by omega
    exact ⟨h1, h2⟩
  · rintro ⟨h1, h2⟩
    exact ⟨u, h1, h2, rfl⟩
end Go.Proofs.Ytpbnppeodoflcaa.PureD
end
section
namespace Go.Proofs.Ytpbnppeodoflcaa.PureD
open Go.RowKit Go.Proofs.Ytpbnppeodoflcaa.PDf Go.Proofs.Ytpbnppeodoflcaa.Pure Go.Proofs.Ytpbnppeodoflcaa.E Go.Proofs.YtpbnppeodoflcaaW.PrintWords Go.Proofs.YtpbnppeodoflcaaW.PrintLast Go.Proofs.YtpbnppeodoflcaaW.PrintMore
set_option linter.unusedVariables false
set_option linter.unusedSimpArgs false
def lessL (a b : List Int) (m : Nat) : List Bool := (List.range m).map fun t : Nat => inS a (t : Int) && !inS b (t : Int)
theorem lessL_succ (a b : List Int) (m : Nat) : lessL a b (m + 1) = lessL a b m ++ [inS a (m : Int) && !inS b (m : Int)] := by simp [lessL, List.range_succ]
theorem lessL_length (a b : List Int) (m : Nat) : (lessL a b m).length = m := by simp [lessL]
theorem less_loop (n : Nat) (hn : 1 ≤ n ∧ n ≤ 16) (a b : List Int) (ha : okB a = true) (hb : okB b = true) (d : Nat) : ∀ (k t : Nat), t + d = n → d + 31 ≤ k →
    catamaranref03_Less.l0 k (n : Int) a b (lessL a b t) (t : Int) = some (madeS n (lessL a b n)) := by
  induction d with
  | zero =>
    intro k t ht hk
    obtain ⟨k, rfl⟩ : ∃ m, k = m + 1 := ⟨k - 1, by omega⟩
    show (if (t : Int) < (n : Int) then _ else _) = _
    rw [if_neg (by omega), show t = n from by omega]
    have := made_f n hn (lessL a b n) (lessL_length a b n) (k - 30)
    rw [show k - 30 + 30 = k from by omega] at this
    rw [this]
    rfl
  | succ d ih =>
    intro k t ht hk
    obtain ⟨k, rfl⟩ : ∃ m, k = m + 1 := ⟨k - 1, by omega⟩
    have hstep := ih k (t + 1) (by omega) (by omega)
    rw [lessL_succ] at hstep
    show (if (t : Int) < (n : Int) then _ else _) = _
    rw [if_pos (by omega), in_f ha (by omega) (by omega), in_f hb (by omega) (by omega)]
    simp only [Option.bind_some]
    rw [if_pos (show (lessL a b t).length < 140737488355328 by rw [lessL_length]; omega), if_pos (show (lessL a b t).length < 140737488355328 by rw [lessL_length]; omega), wrap64_id (x := (t : Int) + 1) (by omega) (by omega), show ((t : Int) + 1) = ((t + 1 : Nat) : Int) from by omega]
    cases hI : inS a (t : Int) with
    | true =>
      rw [if_pos rfl]
      rw [hI, Bool.true_and] at hstep
      exact hstep
    | false =>
      rw [if_neg (by simp)]
      rw [hI, Bool.false_and] at hstep
      exact hstep
theorem less_f (n : Nat) (hn : 1 ≤ n ∧ n ≤ 16) (a b : List Int) (ha : okB a = true) (hb : okB b = true) (k : Nat) : catamaranref03_Less.f (k + 50) (n : Int) a b = some (madeS n (lessL a b n)) := less_loop n hn a b ha hb n (k + 50) 0 (by omega) (by omega)
theorem getD_lessL (a b : List Int) {n u : Nat} (hu : u < n) : (lessL a b n).getD u false = (inS a (u : Int) && !inS b (u : Int)) := by
  unfold lessL
  rw [List.getD_eq_getElem?_getD, List.getElem?_map, List.getElem?_range hu]
  rfl
/-- A set that may be. -/
def SetOk (n : Nat) (s : List Int) : Prop := okB s = true ∧ s.length = (n + 7) / 8 ∧ ∀ u : Nat, n ≤ u → inS s (u : Int) = false
theorem setOk_of {n : Nat} {s : List Int} (hs : okB s = true) (h : ckS (n : Int) s = 0) : SetOk n s := by
  obtain ⟨_, _, h3, h4⟩ := ckS_zero hs h
  exact ⟨hs, by omega, fun u hu => h4 u (by omega)⟩
theorem setOk_made (n : Nat) (l : List Bool) (hn : 1 ≤ n) : SetOk n (madeS n l) := by
  obtain ⟨h1, h2, h3⟩ := madeS_ok n l hn
  exact ⟨h1, h2, fun u hu => by rw [h3, decide_eq_false (by omega), Bool.false_and]⟩
theorem set_eq {n : Nat} {a b : List Int} (ha : SetOk n a) (hb : SetOk n b) (h : ∀ u : Nat, u < n → inS a (u : Int) = inS b (u : Int)) : a = b :=
  ext_inS a b ha.1 hb.1 (by rw [ha.2.1, hb.2.1]) (fun u => by
    by_cases hu : u < n
    · exact h u hu
    · rw [ha.2.2 u (by omega), hb.2.2 u (by omega)])
theorem and_nat (a b : Nat) (ha : a < 256) (hb : b < 256) : Go.bits .and .u8 (a : Int) (b : Int) = ((a &&& b : Nat) : Int) := (bits_nat .u8 8 (by decide) wraps_u8 a b ha hb).1
theorem and_bit {x y : Int} (hx : 0 ≤ x ∧ x < 256) (hy : 0 ≤ y ∧ y < 256) (j : Nat) : bitB (Go.bits .and .u8 x y) j = (bitB x j && bitB y j) := by
  obtain ⟨a, rfl⟩ := Int.eq_ofNat_of_zero_le hx.1
  obtain ⟨b, rfl⟩ := Int.eq_ofNat_of_zero_le hy.1
  rw [and_nat a b (by omega) (by omega), bitB_test, bitB_test, bitB_test, Nat.testBit_and]
theorem and_in {x y : Int} (hx : 0 ≤ x ∧ x < 256) (hy : 0 ≤ y ∧ y < 256) : 0 ≤ Go.bits .and .u8 x y ∧ Go.bits .and .u8 x y < 256 := by
  obtain ⟨a, rfl⟩ := Int.eq_ofNat_of_zero_le hx.1
  obtain ⟨b, rfl⟩ := Int.eq_ofNat_of_zero_le hy.1
  rw [and_nat a b (by omega) (by omega)]
  have : a &&& b ≤ a := Nat.and_le_left
  omega
theorem both_zip (a b : List Int) (h : b.length = a.length) : bothS a b = List.zipWith (fun x y => Go.bits .and .u8 x y) a b := by
  apply List.ext_getElem
  · simp [bothS, andTo, h]
  · intro i h1 h2
    have ha : i < a.length := by simpa [bothS, andTo] using h1
    simp [bothS, andTo, List.getElem?_eq_getElem ha, List.getElem?_eq_getElem (show i < b.length by omega)]
theorem both_ok {n : Nat} {a b : List Int} (ha : SetOk n a) (hb : SetOk n b) : SetOk n (bothS a b) ∧ ∀ u : Nat, inS (bothS a b) (u : Int) = (inS a (u : Int) && inS b (u : Int)) := by
  have hl : b.length = a.length := by rw [ha.2.1, hb.2.1]
  have hin : ∀ u : Nat, inS (bothS a b) (u : Int) = (inS a (u : Int) && inS b (u : Int)) := fun u => by
    rw [both_zip a b hl]
    exact inS_zip _ (fun x y => x && y) rfl (fun x y hx hy j _ => and_bit hx hy j) a b ha.1 hb.1 hl u
  refine ⟨⟨?_, by rw [both_zip a b hl, List.length_zipWith, hl, Nat.min_self]; exact ha.2.1, fun u hu => by rw [hin, ha.2.2 u hu, Bool.false_and]⟩, hin⟩
  rw [both_zip a b hl]
  exact okB_zip _ (fun x y hx hy => and_in hx hy) a b ha.1 hb.1
theorem both_ref {n : Nat} (hn : 1 ≤ n ∧ n ≤ 16) {a b : List Int} (ha : SetOk n a) (hb : SetOk n b) (k : Nat) : catamaranref14_Both.f (k + 50) (n : Int) a b = some (bothS a b) := by
  unfold catamaranref14_Both.f
  have h1 := setOk_made n (lessL a b n) hn.1
  have m1 := (madeS_ok n (lessL a b n) hn.1).2.2
  rw [less_f n hn a b ha.1 hb.1 k]
  simp only [Option.bind_some]
  rw [less_f n hn a _ ha.1 h1.1 k]
  simp only [Option.bind_some]
  congr 1
  have h2 := setOk_made n (lessL a (madeS n (lessL a b n)) n) hn.1
  have m2 := (madeS_ok n (lessL a (madeS n (lessL a b n)) n) hn.1).2.2
  obtain ⟨hb1, hb2⟩ := both_ok ha hb
  refine set_eq h2 hb1 (fun u hu => ?_)
  rw [m2, getD_lessL _ _ hu, m1, getD_lessL _ _ hu, hb2, decide_eq_true hu]
  cases inS a (u : Int) <;> cases inS b (u : Int) <;> rfl
end Go.Proofs.Ytpbnppeodoflcaa.PureD
end
section
namespace Go.Proofs.Ytpbnppeodoflcaa.PureD
open Go.RowKit Go.Proofs.Ytpbnppeodoflcaa.PDf Go.Proofs.Ytpbnppeodoflcaa.Pure Go.Proofs.Ytpbnppeodoflcaa.E Go.Proofs.YtpbnppeodoflcaaW.PrintWords Go.Proofs.YtpbnppeodoflcaaW.PrintLast Go.Proofs.YtpbnppeodoflcaaW.PrintMore
set_option linter.unusedVariables false
set_option linter.unusedSimpArgs false
theorem mask_no : ∀ m : Nat, m < 9 → ∀ c : Nat, c < 256 → ((List.range 8).all fun j => decide (j < m) || !bitB (c : Int) j) = true → Go.bits .andNot .u8 (c : Int) (2 ^ m - 1) = 0 := by decide +kernel
theorem in_byte {s : List Int} {i j : Nat} (hi : i < s.length) (hj : j < 8) : inS s ((8 * i + j : Nat) : Int) = bitB (rd s (i : Int)) j := by
  unfold inS
  rw [decide_eq_true (by omega), show (((8 * i + j : Nat) : Int) / 8) = (i : Int) from by omega, decide_eq_true (by omega), show (((8 * i + j : Nat) : Int) % 8).toNat = j from by omega]
  simp
/-- No byte of a set has a bit beyond the tracks. -/
theorem no_more {n : Nat} (hn : 1 ≤ n ∧ n ≤ 16) {s : List Int} (hs : SetOk n s) {i : Nat} (hi : i < s.length) : Go.bits .andNot .u8 (rd s (i : Int)) (rd (allB (n : Int)) (i : Int)) = 0 := by
  have hr := rd_nonneg hs.1 (i : Int)
  obtain ⟨c, hc⟩ := Int.eq_ofNat_of_zero_le hr.1
  have hl := hs.2.1
  have key : ∀ m : Nat, m < 9 → m = min 8 (n - 8 * i) → Go.bits .andNot .u8 (rd s (i : Int)) (2 ^ m - 1) = 0 := fun m hm he => by
    rw [hc]
    refine mask_no m hm c (by omega) (List.all_eq_true.2 fun j hj => ?_)
    have hj8 : j < 8 := List.mem_range.1 hj
    by_cases hjm : j < m
    · simp [hjm]
    · have := in_byte (s := s) hi hj8
      rw [hs.2.2 (8 * i + j) (by omega), hc] at this
      rw [← this]
      simp
  unfold allB
  by_cases h8 : (n : Int) ≤ 8
  · rw [if_pos h8]
    obtain rfl : i = 0 := by omega
    rw [Int.toNat_natCast]
    exact key n (by omega) (by omega)
  · rw [if_neg h8]
    rcases (show i = 0 ∨ i = 1 by omega) with rfl | rfl
    · exact key 8 (by decide) (by omega)
    · have := key (n - 8) (by omega) (by omega)
      rw [show ((n : Int) - 8).toNat = n - 8 from by omega]
      exact this
theorem plan_ok {c0 c2 c3 c4 c5 pr : Int} {n : Nat} (hc : CfgOk c0 (n : Int) c2 c3 c4 c5) (hp : 0 ≤ pr ∧ pr < c0) {s : List Int} (hs : SetOk n s) {i : Nat} (hi : i < s.length) :
    PageOk c0 (n : Int) pr (i : Int) ∧ planS c0 (n : Int) c2 c3 c4 c5 pr (i : Int) (rd s (i : Int)) = (atS c0 (n : Int) c2 pr (i : Int), [1, pr % 256, (i : Int) % 256, rd s (i : Int)] ++ List.replicate 28 0, 0) := by
  have h1 := hc.2.1
  have hl := hs.2.1
  have hP : PageOk c0 (n : Int) pr (i : Int) := ⟨hp, by omega, by unfold manyS; split <;> omega⟩
  refine ⟨hP, ?_⟩
  have ht : textS c0 (n : Int) c2 c3 c4 c5 pr (i : Int) (rd s (i : Int)) = ([1, pr % 256, (i : Int) % 256, rd s (i : Int)] ++ List.replicate 28 0, 0) := by
    unfold textS
    rw [if_pos hc, if_pos hP, if_pos (no_more (by omega) hs hi)]
  unfold planS
  rw [ht, if_pos rfl]
theorem sector_f (a b c : Int) : catamaranref13_Sector.f a b c = some ([1, a % 256, b % 256, c] ++ List.replicate 28 0) := by
  unfold catamaranref13_Sector.f
  simp only [Option.bind_some]
  rw [if_pos (by simp)]
theorem written_loop {c0 c2 c3 c4 c5 pr : Int} {n : Nat} (hc : CfgOk c0 (n : Int) c2 c3 c4 c5) (hp : 0 ≤ pr ∧ pr < c0) {s : List Int} (hs : SetOk n s) (which : List Bool) (hw : which.length = s.length) (A : Int → Bool) (hA : ∀ i : Nat, i < s.length → rdOf false which (i : Int) = A (i : Int)) (d : Nat) :
    ∀ (k i : Nat) (cur : List Int) (acts : List Act_), i + d = s.length → cur.length = s.length → acts.length ≤ i → d < k →
    catamaranref14_written.l0 k pr s which cur acts (i : Int) c0 (n : Int) c2 c3 c4 c5 = some ((eachF A (mkAct c0 (n : Int) c2 c3 c4 c5 pr) s d (i : Int) cur acts).1, flushS (eachF A (mkAct c0 (n : Int) c2 c3 c4 c5 pr) s d (i : Int) cur acts).2) := by
  have hl := hs.2.1
  have h1 := hc.2.1
  induction d with
  | zero =>
    intro k i cur acts hi hcur hac hk
    obtain ⟨k, rfl⟩ : ∃ m, k = m + 1 := ⟨k - 1, by omega⟩
    show (if (i : Int) < (cur.length : Int) then _ else _) = _
    rw [if_neg (by omega)]
    unfold eachF flushS
    by_cases h0 : acts.length = 0
    · rw [if_neg (by omega), if_pos h0]
    · rw [if_pos (by omega), if_neg h0, if_pos (by omega)]
      rfl
  | succ d ih =>
    intro k i cur acts hi hcur hac hk
    obtain ⟨k, rfl⟩ : ∃ m, k = m + 1 := ⟨k - 1, by omega⟩
    show (if (i : Int) < (cur.length : Int) then _ else _) = _
    rw [if_pos (by omega), if_pos (by omega), if_pos (by omega), hA i (by omega)]
    unfold eachF
    rw [wrap64_id (x := (i : Int) + 1) (by omega) (by omega), show ((i : Int) + 1) = ((i + 1 : Nat) : Int) from by omega]
    cases hAi : A (i : Int) with
    | true =>
      obtain ⟨hP, hpl⟩ := plan_ok hc hp hs (i := i) (by omega)
      rw [if_pos rfl, if_pos rfl, if_pos (by omega), ofpage c0 (n : Int) c2 c3 c4 c5 pr (i : Int) hc hP]
      simp only [Option.bind_some]
      rw [sector_f]
      simp only [Option.bind_some]
      rw [if_pos (show acts.length < 533096546800 by omega)]
      have hmk : mkAct c0 (n : Int) c2 c3 c4 c5 pr (i : Int) (rd s (i : Int)) = actOf 1 (atS c0 (n : Int) c2 pr (i : Int)) ([1, pr % 256, (i : Int) % 256, rd s (i : Int)] ++ List.replicate 28 0) := by
        unfold mkAct
        rw [hpl]
      rw [hmk]
      exact ih k (i + 1) _ _ (by omega) (by rw [List.length_set]; omega) (by rw [List.length_append]; simp; omega) (by omega)
    | false =>
      rw [if_neg (by simp), if_neg (by simp)]
      exact ih k (i + 1) _ _ (by omega) hcur (by omega) (by omega)
theorem written_f {c0 c2 c3 c4 c5 pr : Int} {n : Nat} (hc : CfgOk c0 (n : Int) c2 c3 c4 c5) (hp : 0 ≤ pr ∧ pr < c0) {marks s : List Int} (hs : SetOk n s) (hm : marks.length = s.length) (which : List Bool) (hw : which.length = s.length) (A : Int → Bool) (hA : ∀ i : Nat, i < s.length → rdOf false which (i : Int) = A (i : Int)) (k : Nat) :
    catamaranref14_written.f (k + 10) c0 (n : Int) c2 c3 c4 c5 pr marks s which = some (anewS A c0 (n : Int) c2 c3 c4 c5 pr marks s) := by
  have hl := hs.2.1
  have h1 := hc.2.1
  unfold catamaranref14_written.f
  simp only [Option.bind_some]
  rw [if_pos (by simp; omega), List.nil_append]
  have := written_loop hc hp hs which hw A hA s.length (k + 10) 0 marks [] (by omega) hm (by simp) (by omega)
  rw [show ((0 : Nat) : Int) = 0 from rfl] at this
  rw [this]
  unfold anewS eachS
  rw [hm]
def difL (a b : List Int) (m : Nat) : List Bool := (List.range m).map fun t : Nat => rd a (t : Int) != rd b (t : Int)
theorem difL_succ (a b : List Int) (m : Nat) : difL a b (m + 1) = difL a b m ++ [rd a (m : Int) != rd b (m : Int)] := by simp [difL, List.range_succ]
theorem difL_length (a b : List Int) (m : Nat) : (difL a b m).length = m := by simp [difL]
theorem differ_loop (a b : List Int) (hl : a.length = b.length) (hs : a.length ≤ 100) (d : Nat) : ∀ (k t : Nat), t + d = a.length → d < k →
    catamaranref14_differ.l0 k a b (difL a b t) (t : Int) = some (difL a b a.length) := by
  induction d with
  | zero =>
    intro k t ht hk
    obtain ⟨k, rfl⟩ : ∃ m, k = m + 1 := ⟨k - 1, by omega⟩
    show (if (t : Int) < (a.length : Int) then _ else _) = _
    rw [if_neg (by omega), show t = a.length from by omega]
  | succ d ih =>
    intro k t ht hk
    obtain ⟨k, rfl⟩ : ∃ m, k = m + 1 := ⟨k - 1, by omega⟩
    have hstep := ih k (t + 1) (by omega) (by omega)
    rw [difL_succ] at hstep
    show (if (t : Int) < (a.length : Int) then _ else _) = _
    rw [if_pos (by omega), if_pos (by omega), if_pos (by omega), if_pos (show (difL a b t).length < 140737488355328 by rw [difL_length]; omega), wrap64_id (x := (t : Int) + 1) (by omega) (by omega), show ((t : Int) + 1) = ((t + 1 : Nat) : Int) from by omega]
    exact hstep
theorem differ_f (a b : List Int) (hl : a.length = b.length) (hs : a.length ≤ 10) (k : Nat) : catamaranref14_differ.f (k + 20) a b = some (difL a b a.length) := differ_loop a b hl (by omega) a.length (k + 20) 0 (by omega) (by omega)
theorem rd_difL (a b : List Int) {m i : Nat} (hi : i < m) : rdOf false (difL a b m) (i : Int) = askC a b (i : Int) := by
  unfold rdOf difL askC
  rw [Int.toNat_natCast, List.getD_eq_getElem?_getD, List.getElem?_map, List.getElem?_range hi]
  rfl
end Go.Proofs.Ytpbnppeodoflcaa.PureD
end
section
namespace Go.Proofs.Ytpbnppeodoflcaa.PureD
open Go.RowKit Go.Proofs.Ytpbnppeodoflcaa.PDf Go.Proofs.Ytpbnppeodoflcaa.Pure Go.Proofs.Ytpbnppeodoflcaa.E Go.Proofs.YtpbnppeodoflcaaW.PrintWords Go.Proofs.YtpbnppeodoflcaaW.PrintLast Go.Proofs.YtpbnppeodoflcaaW.PrintMore
set_option linter.unusedVariables false
set_option linter.unusedSimpArgs false
theorem cleaned_f {c0 c2 c3 c4 c5 pr : Int} {n : Nat} (hc : CfgOk c0 (n : Int) c2 c3 c4 c5) (hp : 0 ≤ pr ∧ pr < c0) {marks work : List Int} (hm : SetOk n marks) (hw : SetOk n work) (k : Nat) :
    catamaranref14_Cleaned.f (k + 50) c0 (n : Int) c2 c3 c4 c5 pr marks work = some (anewS (askC (bothS marks work) marks) c0 (n : Int) c2 c3 c4 c5 pr marks (bothS marks work)) := by
  have h1 := hc.2.1
  have hl := hm.2.1
  obtain ⟨hb, _⟩ := both_ok hm hw
  have hbl := hb.2.1
  unfold catamaranref14_Cleaned.f
  rw [both_ref (by omega) hm hw]
  simp only [Option.bind_some]
  rw [show k + 50 = (k + 30) + 20 from by omega, differ_f _ _ (by omega) (by omega)]
  simp only [Option.bind_some]
  rw [show k + 30 + 20 = (k + 40) + 10 from by omega, written_f hc hp hb (by omega) _ (difL_length _ _ _) (askC (bothS marks work) marks) (fun i hi => rd_difL _ _ hi)]
  rfl
theorem all_ok : ∀ n : Nat, n < 17 → 1 ≤ n → okB (allB (n : Int)) = true ∧ ckS (n : Int) (allB (n : Int)) = 0 := by decide +kernel
theorem filled_f {c0 c2 c3 c4 c5 pr : Int} {n : Nat} (hc : CfgOk c0 (n : Int) c2 c3 c4 c5) (hp : 0 ≤ pr ∧ pr < c0) {marks : List Int} (hm : SetOk n marks) (k : Nat) :
    catamaranref14_Filled.f (k + 50) c0 (n : Int) c2 c3 c4 c5 pr marks = some (anewS (askC (allB (n : Int)) marks) c0 (n : Int) c2 c3 c4 c5 pr marks (allB (n : Int))) := by
  have h1 := hc.2.1
  have hl := hm.2.1
  obtain ⟨o1, o2⟩ := all_ok n (by omega) (by omega)
  have hb := setOk_of o1 o2
  have hbl := hb.2.1
  unfold catamaranref14_Filled.f q3_Full.f
  rw [if_pos h1]
  simp only [Option.bind_some]
  rw [show k + 50 = (k + 30) + 20 from by omega, differ_f _ _ (by omega) (by omega)]
  simp only [Option.bind_some]
  rw [show k + 30 + 20 = (k + 40) + 10 from by omega, written_f hc hp hb (by omega) _ (difL_length _ _ _) (askC (allB (n : Int)) marks) (fun i hi => rd_difL _ _ hi)]
  rfl
end Go.Proofs.Ytpbnppeodoflcaa.PureD
end
section
namespace Go.Proofs.Ytpbnppeodoflcaa.PureD
open Go.RowKit Go.Proofs.Ytpbnppeodoflcaa.PDf Go.Proofs.Ytpbnppeodoflcaa.Pure Go.Proofs.Ytpbnppeodoflcaa.E Go.Proofs.YtpbnppeodoflcaaW.PrintWords Go.Proofs.YtpbnppeodoflcaaW.PrintLast Go.Proofs.YtpbnppeodoflcaaW.PrintMore
set_option linter.unusedVariables false
set_option linter.unusedSimpArgs false
theorem ask_zero {c0 c1 c2 c3 c4 c5 pr : Int} {l : List (List Int)} (h : askS c0 c1 c2 c3 c4 c5 pr l = 0) : CfgOk c0 c1 c2 c3 c4 c5 ∧ (0 ≤ pr ∧ pr < c0) ∧ ∀ s ∈ l, ckS c1 s = 0 := by
  unfold askS at h
  by_cases hc : CfgOk c0 c1 c2 c3 c4 c5
  · rw [if_pos hc] at h
    by_cases hp : pr < 0 ∨ c0 ≤ pr
    · rw [if_pos hp] at h
      exact absurd h (by decide)
    · rw [if_neg hp] at h
      by_cases ha : (l.all fun s => ckS c1 s == 0) = true
      · exact ⟨hc, by omega, fun s hs => by simpa using List.all_eq_true.1 ha s hs⟩
      · rw [if_neg ha] at h
        exact absurd h (by decide)
  · rw [if_neg hc] at h
    exact absurd h (by decide)
def cleanR (c0 c1 c2 c3 c4 c5 pr : Int) (marks work : List Int) : List Int × List Act_ × Int :=
  if askS c0 c1 c2 c3 c4 c5 pr [marks, work] = 0 then ((anewS (askC (bothS marks work) marks) c0 c1 c2 c3 c4 c5 pr marks (bothS marks work)).1, (anewS (askC (bothS marks work) marks) c0 c1 c2 c3 c4 c5 pr marks (bothS marks work)).2, 0) else ([], [], askS c0 c1 c2 c3 c4 c5 pr [marks, work])
def fillR (c0 c1 c2 c3 c4 c5 pr : Int) (marks : List Int) : List Int × List Act_ × Int :=
  if askS c0 c1 c2 c3 c4 c5 pr [marks] = 0 then ((anewS (askC (allB c1) marks) c0 c1 c2 c3 c4 c5 pr marks (allB c1)).1, (anewS (askC (allB c1) marks) c0 c1 c2 c3 c4 c5 pr marks (allB c1)).2, 0) else ([], [], askS c0 c1 c2 c3 c4 c5 pr [marks])
theorem clean_own (c0 c1 c2 c3 c4 c5 pr : Int) (marks work : List Int) (h0 : (Lit.int .i64 c0).wf = true) (ha : okB marks = true) (hb : okB work = true) :
    diff_Clean.f c0 c1 c2 c3 c4 c5 pr marks work = some (cleanR c0 c1 c2 c3 c4 c5 pr marks work) := by
  unfold diff_Clean.f cleanR
  rw [asked_own c0 c1 c2 c3 c4 c5 pr [marks, work] h0 (by simp) (by intro s hs; simp at hs; rcases hs with rfl | rfl <;> assumption), Option.bind_some]
  by_cases he : askS c0 c1 c2 c3 c4 c5 pr [marks, work] = 0
  · rw [if_pos he, if_pos he]
    obtain ⟨hc, hp, hck⟩ := ask_zero he
    have h1 := hc.2.1
    obtain ⟨n, rfl⟩ := Int.eq_ofNat_of_zero_le (show 0 ≤ c1 by omega)
    have l1 := (setOk_of ha (hck marks (by simp))).2.1
    have l2 := (setOk_of hb (hck work (by simp))).2.1
    have hg : cleanG c0 marks work = true := by
      unfold cleanG
      rw [h0, decide_eq_true (by omega), decide_eq_true (by omega), decide_eq_true (by omega)]
      rfl
    rw [if_pos hg]
  · rw [if_neg he, if_neg he]
theorem fill_own (c0 c1 c2 c3 c4 c5 pr : Int) (marks : List Int) (h0 : (Lit.int .i64 c0).wf = true) (ha : okB marks = true) :
    diff_Fill.f c0 c1 c2 c3 c4 c5 pr marks = some (fillR c0 c1 c2 c3 c4 c5 pr marks) := by
  unfold diff_Fill.f fillR
  rw [asked_own c0 c1 c2 c3 c4 c5 pr [marks] h0 (by simp) (by intro s hs; simp at hs; subst hs; assumption), Option.bind_some]
  by_cases he : askS c0 c1 c2 c3 c4 c5 pr [marks] = 0
  · rw [if_pos he, if_pos he]
    obtain ⟨hc, hp, hck⟩ := ask_zero he
    have h1 := hc.2.1
    obtain ⟨n, rfl⟩ := Int.eq_ofNat_of_zero_le (show 0 ≤ c1 by omega)
    have l1 := (setOk_of ha (hck marks (by simp))).2.1
    obtain ⟨o1, o2⟩ := all_ok n (by omega) (by omega)
    have l2 := (setOk_of o1 o2).2.1
    have hg : fillG c0 (n : Int) marks = true := by
      unfold fillG
      rw [h0, decide_eq_true (by omega), decide_eq_true (by omega), decide_eq_true (by omega), decide_eq_true (by omega)]
      rfl
    rw [if_pos hg]
  · rw [if_neg he, if_neg he]
theorem ask_one (c0 c1 c2 c3 c4 c5 pr : Int) (s : List Int) : askS c0 c1 c2 c3 c4 c5 pr [s, s] = askS c0 c1 c2 c3 c4 c5 pr [s] := by
  unfold askS
  simp
theorem clean_ref (c0 c1 c2 c3 c4 c5 pr : Int) (marks work : List Int) (h0 : (Lit.int .i64 c0).wf = true) (ha : okB marks = true) (hb : okB work = true) (k : Nat) :
    catamaranref14_Clean.f (k + 60) c0 c1 c2 c3 c4 c5 pr marks work = some (cleanR c0 c1 c2 c3 c4 c5 pr marks work) := by
  unfold catamaranref14_Clean.f cleanR
  rw [show k + 60 = (k + 19) + 41 from by omega, asked_ref c0 c1 c2 c3 c4 c5 pr marks work h0 ha hb, Option.bind_some, show k + 19 + 41 = (k + 10) + 50 from by omega]
  by_cases he : askS c0 c1 c2 c3 c4 c5 pr [marks, work] = 0
  · rw [if_pos he, if_pos he]
    obtain ⟨hc, hp, hck⟩ := ask_zero he
    have h1 := hc.2.1
    obtain ⟨n, rfl⟩ := Int.eq_ofNat_of_zero_le (show 0 ≤ c1 by omega)
    rw [cleaned_f hc hp (setOk_of ha (hck marks (by simp))) (setOk_of hb (hck work (by simp))), Option.bind_some]
  · rw [if_neg he, if_neg he]
theorem fill_ref (c0 c1 c2 c3 c4 c5 pr : Int) (marks : List Int) (h0 : (Lit.int .i64 c0).wf = true) (ha : okB marks = true) (k : Nat) :
    catamaranref14_Fill.f (k + 60) c0 c1 c2 c3 c4 c5 pr marks = some (fillR c0 c1 c2 c3 c4 c5 pr marks) := by
  unfold catamaranref14_Fill.f fillR
  rw [show k + 60 = (k + 19) + 41 from by omega, asked_ref c0 c1 c2 c3 c4 c5 pr marks marks h0 ha ha, Option.bind_some, show k + 19 + 41 = (k + 10) + 50 from by omega, ask_one]
  by_cases he : askS c0 c1 c2 c3 c4 c5 pr [marks] = 0
  · rw [if_pos he, if_pos he]
    obtain ⟨hc, hp, hck⟩ := ask_zero he
    have h1 := hc.2.1
    obtain ⟨n, rfl⟩ := Int.eq_ofNat_of_zero_le (show 0 ≤ c1 by omega)
    rw [filled_f hc hp (setOk_of ha (hck marks (by simp))), Option.bind_some]
  · rw [if_neg he, if_neg he]
theorem same_loop (l : List Act_) (hl : l.length ≤ 1000) (d : Nat) : ∀ (k i : Nat), i + d = l.length → d < k → catamaranref12_SameActs.l0 k l l (i : Int) = some true := by
  induction d with
  | zero =>
    intro k i hi hk
    obtain ⟨k, rfl⟩ : ∃ m, k = m + 1 := ⟨k - 1, by omega⟩
    show (if (i : Int) < (l.length : Int) then _ else _) = _
    rw [if_neg (by omega)]
  | succ d ih =>
    intro k i hi hk
    obtain ⟨k, rfl⟩ : ∃ m, k = m + 1 := ⟨k - 1, by omega⟩
    show (if (i : Int) < (l.length : Int) then _ else _) = _
    rw [if_pos (by omega), if_pos (by omega), if_pos (by omega), if_pos rfl, if_pos rfl, if_pos rfl, wrap64_id (x := (i : Int) + 1) (by omega) (by omega), show ((i : Int) + 1) = ((i + 1 : Nat) : Int) from by omega]
    exact ih k (i + 1) (by omega) (by omega)
theorem same_self (l : List Act_) (hl : l.length ≤ 150) (k : Nat) : catamaranref12_SameActs.f (k + 200) l l = some true := by
  unfold catamaranref12_SameActs.f
  rw [if_pos rfl]
  exact same_loop l (by omega) l.length (k + 200) 0 (by omega) (by omega)
theorem eachF_one (A : Int → Bool) (mk : Int → Int → Act_) (set_ : List Int) : ∀ (m : Nat) (i : Int) (cur : List Int) (acts : List Act_), (eachF A mk set_ m i cur acts).1.length = cur.length
  | 0, _, _, _ => rfl
  | m + 1, i, cur, acts => by
    unfold eachF
    split
    · rw [eachF_one A mk set_ m, List.length_set]
    · rw [eachF_one A mk set_ m]
theorem anew_len (A : Int → Bool) (c0 c1 c2 c3 c4 c5 pr : Int) (marks set_ : List Int) : (anewS A c0 c1 c2 c3 c4 c5 pr marks set_).1.length = marks.length ∧ (anewS A c0 c1 c2 c3 c4 c5 pr marks set_).2.length ≤ marks.length + 1 := by
  unfold anewS eachS
  refine ⟨eachF_one _ _ _ _ _ _ _, ?_⟩
  have := eachF_len A (mkAct c0 c1 c2 c3 c4 c5 pr) set_ marks.length 0 marks []
  unfold flushS
  split
  · simpa using Nat.le_trans this (by simp)
  · simpa using this
theorem cleanR_len (c0 c1 c2 c3 c4 c5 pr : Int) (marks work : List Int) (h : marks.length ≤ 100) : (cleanR c0 c1 c2 c3 c4 c5 pr marks work).1.length ≤ 150 ∧ (cleanR c0 c1 c2 c3 c4 c5 pr marks work).2.1.length ≤ 150 := by
  unfold cleanR
  split
  · have := anew_len (askC (bothS marks work) marks) c0 c1 c2 c3 c4 c5 pr marks (bothS marks work)
    exact ⟨by show (anewS _ _ _ _ _ _ _ _ _ _).1.length ≤ 150; omega, by show (anewS _ _ _ _ _ _ _ _ _ _).2.length ≤ 150; omega⟩
  · simp
theorem fillR_len (c0 c1 c2 c3 c4 c5 pr : Int) (marks : List Int) (h : marks.length ≤ 100) : (fillR c0 c1 c2 c3 c4 c5 pr marks).1.length ≤ 150 ∧ (fillR c0 c1 c2 c3 c4 c5 pr marks).2.1.length ≤ 150 := by
  unfold fillR
  split
  · have := anew_len (askC (allB c1) marks) c0 c1 c2 c3 c4 c5 pr marks (allB c1)
    exact ⟨by show (anewS _ _ _ _ _ _ _ _ _ _).1.length ≤ 150; omega, by show (anewS _ _ _ _ _ _ _ _ _ _).2.length ≤ 150; omega⟩
  · simp
end Go.Proofs.Ytpbnppeodoflcaa.PureD
end

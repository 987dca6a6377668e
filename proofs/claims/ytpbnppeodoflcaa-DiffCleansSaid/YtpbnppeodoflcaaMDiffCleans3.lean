/- Parts of the proof of DiffCleans, no condition: PPgx1, PPgx2, PurePageTells, D1, D2, D3, E1, D4, D5, E12. -/
import Derived.Test.YtpbnppeodoflcaaMDiffCleans2
import Derived.Below
import Derived.Deep.Draws
import Derived.Deep.AppendLies
import Derived.Maps.AppendAt
import Derived.OwnWalk
import Derived.Laws.BytesArg
import Derived.Laws.MakeOwn
import Derived.Laws.OwnMore
import Derived.Deep.OwnRows
import Derived.Tactics
import Derived.Lib.ConvBytes
import Derived.Laws.Slices
import Derived.WalkKit
import Derived.KernelRfl
import Derived.RowKit3
import Derived.Deep.LoopGhost
import Derived.Deep.QuietTactic
import Derived.BigQuiet
import Derived.WideLaws
import Derived.Deep.DeepCutAuto
import Derived.Deep.CutBlock
import Derived.Deep.RegionHeld3
import Derived.Laws.Rows
import Derived.Lib.AppendStr
import Derived.ArgAppend
import Derived.Laws.IdiomCopy
import Derived.RowKit
import Derived.OrdersHeld
import Derived.Laws.BitsLemmas
import Derived.Laws.StructEq
import Derived.Test.YtpbnppeodoflcaaProg
import Derived.WalkLawsBesides
import Derived.WalkSpells
import Derived.Outline
import Derived.Laws.CopyOwn
import Derived.LoopN
import Derived.Deep.RegionLaw
import Derived.RangeFuncNested
import Derived.RangeFuncBound
import Derived.RangeFuncCalls
import Derived.RangeFuncLeaves
import Derived.Shelf.Abstract
import Derived.Shelf.RegionOpen
import Derived.OwnWalkIn
import Derived.TacticsInMore
import Derived.LoopNIn
import Derived.LoopIn
import Derived.Defers
import Derived.RegionTactic
import Derived.BigRegion
section
namespace Go.Proofs.Ytpbnppeodoflcaa.PPg
open Go.Proofs.Ytpbnppeodoflcaa.E
open Go.RowKit Go.Proofs.YtpbnppeodoflcaaW.PrintWords Go.Proofs.YtpbnppeodoflcaaW.PrintLast Go.Proofs.YtpbnppeodoflcaaW.PrintMore
attribute [local go_sem] max2_int min2_int max_two min_two max_three min_three max_four min_four   -- for this text's walks alone
set_option linter.unusedVariables false
set_option linter.unusedSimpArgs false
def page_at.f (a0_0 : Int) (a0_1 : Int) (a0_2 : Int) (a0_3 : Int) (a0_4 : Int) (a0_5 : Int) (a1 : Int) (a2 : Int) : Option (Int × Int × Int) := (place_Page.f a0_0 a0_1 a0_2 a0_3 a0_4 a0_5 a1 a2).bind fun bt102 => (if bt102.2 = 0 then ((bits_All.f a0_1).bind fun bt104 => (if 0 ≤ a2 then (if a2 < (bt104.1.length : Int) then (some (bt102.1, rd bt104.1 a2, 0)) else (none)) else (none))) else (some (0, 0, bt102.2)))
set_option maxHeartbeats 8000000 in
set_option maxRecDepth 100000 in
theorem page_at.calls (a0_0 : Int) (a0_1 : Int) (a0_2 : Int) (a0_3 : Int) (a0_4 : Int) (a0_5 : Int) (a1 : Int) (a2 : Int) (r1 : Int) (r2 : Int) (r3 : Int) (w : World) (h : page_at.f a0_0 a0_1 a0_2 a0_3 a0_4 a0_5 a1 a2 = some (r1, r2, r3)) :
    Calls Try.prog 76 #[.agg #[.int .i64 a0_0, .int .i64 a0_1, .int .i64 a0_2, .int .i64 a0_3, .int .i64 a0_4, .int .i64 a0_5], .int .i64 a1, .int .i64 a2] w fun e w' => e = .returned (.tuple #[.int .i64 r1, .int .u8 r2, .int .i64 r3]) ∧ Below w.heap.size w w' := by
  have hu23 := Try.underlying23
  have HB := Aside0.mk (Below.refl w.heap.size w)
  have H : ((place_Page.f a0_0 a0_1 a0_2 a0_3 a0_4 a0_5 a1 a2).bind fun bt102 => (if bt102.2 = 0 then ((bits_All.f a0_1).bind fun bt104 => (if 0 ≤ a2 then (if a2 < (bt104.1.length : Int) then (some (bt102.1, rd bt104.1 a2, 0)) else (none)) else (none))) else (some (0, 0, bt102.2)))) = some (r1, r2, r3) := h
  clear h
  replace H := Option.bind_eq_some_iff.mp H
  obtain ⟨⟨t102, t103⟩, A40, H⟩ := H
  replace H : (if t103 = 0 then ((bits_All.f a0_1).bind fun bt104 => (if 0 ≤ a2 then (if a2 < (bt104.1.length : Int) then (some (t102, rd bt104.1 a2, 0)) else (none)) else (none))) else (some (0, 0, t103))) = some (r1, r2, r3) := H
  have A4 := Aside0.mk A40
  clear A40
  by_cases c5 : t103 = 0
  · rw [if_pos c5] at H
    have c5b0 : (t103 == 0) = true := beq_iff_eq.mpr c5
    have c5b1 : (t103 != 0) = false := bne_eq_false_iff_eq.mpr c5
    clear c5
    replace H := Option.bind_eq_some_iff.mp H
    obtain ⟨⟨t104, t105⟩, A60, H⟩ := H
    replace H : (if 0 ≤ a2 then (if a2 < (t104.length : Int) then (some (t102, rd t104 a2, 0)) else (none)) else (none)) = some (r1, r2, r3) := H
    have A6 := Aside0.mk A60
    clear A60
    by_cases c7 : 0 ≤ a2
    · rw [if_pos c7] at H
      have c7b0 : decide (0 ≤ a2) = true := decide_eq_true c7
      clear c7
      by_cases c8 : a2 < (t104.length : Int)
      · rw [if_pos c8] at H
        have c8b0 : decide (a2 < (t104.length : Int)) = true := decide_eq_true c8
        clear c8
        simp only [Option.some.injEq, Prod.mk.injEq] at H
        obtain ⟨rfl, rfl, rfl⟩ := H
        go_enter Try.func76, Try.ntmps76
        go_wp2_with (first | ((with_reducible refine gate_dst (N := 3) rfl ?_); refine box_event ?hg (N := 3) ?hd (cs := #[.int .i64 a0_0, .int .i64 a0_1, .int .i64 a0_2, .int .i64 a0_3, .int .i64 a0_4, .int .i64 a0_5]) (t := 23) ?hr ?_; (case hd => rfl); (case hg => rfl); (case hr => first | (go_simp; done) | (go_simp; rfl)); intro gb101 hg w9 hbox hb; have n0_ := Aside0.mk (below_step (by repeat (first | (with_reducible first | exact HB.out | apply below_alloc | apply pw_below_drewN | apply below_drew1) | exact HB.out)) hb); have n1_ := Aside0.mk (hbox); have n2_ := Aside0.mk ((by rw [hg]; exact (below_size (by repeat (first | (with_reducible first | exact HB.out | apply below_alloc | apply pw_below_drewN | apply below_drew1) | exact HB.out))) : w.heap.size ≤ gb101)); have n3_ := Aside0.mk ((by rw [hg]; exact (below_size (by repeat (first | (with_reducible first | exact HB.out | apply below_alloc | apply pw_below_drewN | apply below_drew1) | exact HB.out))) : w.heap.size ≤ gb101)); clear HB; have HB := n0_; have BK101 := n1_; have GW101 := n2_; have GE101 := n3_; clear n0_ n1_ n2_ n3_; clear hb hbox hg; have hcz10_0 : w9.cell? ⟨gb101, 0, none⟩ = some (.int .i64 a0_0) := (blk_cell BK101.out 0).trans rfl; have hcz10_1 : w9.cell? ⟨gb101, 1, none⟩ = some (.int .i64 a0_1) := (blk_cell BK101.out 1).trans rfl; have hcz10_2 : w9.cell? ⟨gb101, 2, none⟩ = some (.int .i64 a0_2) := (blk_cell BK101.out 2).trans rfl; have hcz10_3 : w9.cell? ⟨gb101, 3, none⟩ = some (.int .i64 a0_3) := (blk_cell BK101.out 3).trans rfl; have hcz10_4 : w9.cell? ⟨gb101, 4, none⟩ = some (.int .i64 a0_4) := (blk_cell BK101.out 4).trans rfl; have hcz10_5 : w9.cell? ⟨gb101, 5, none⟩ = some (.int .i64 a0_5) := (blk_cell BK101.out 5).trans rfl; have hfz10_0 := blk_frozen BK101.out 0; have hfz10_1 := blk_frozen BK101.out 1; have hfz10_2 := blk_frozen BK101.out 2; have hfz10_3 := blk_frozen BK101.out 3; have hfz10_4 := blk_frozen BK101.out 4; have hfz10_5 := blk_frozen BK101.out 5) | (go_at_call 142; (with_reducible refine (place_Page.calls a0_0 a0_1 a0_2 a0_3 a0_4 a0_5 a1 a2 t102 t103 _ A4.out).mono ?_); rintro e w11 ⟨rfl, hb⟩; have n0_ := Aside0.mk (blk_below (g := gb101) (o := .cells #[.int .i64 a0_0, .int .i64 a0_1, .int .i64 a0_2, .int .i64 a0_3, .int .i64 a0_4, .int .i64 a0_5] 23 (0, 0)) (by (with_reducible repeat (first | refine blk_drewN ?_ _ | refine blk_drew ?_ | refine blk_alloc ?_ _)); exact BK101.out) hb); have n1_ := Aside0.mk (below_step (by repeat (first | (with_reducible first | exact HB.out | apply below_alloc | apply pw_below_drewN | apply below_drew1 | refine below_set ?_ GE101.out) | exact HB.out)) hb); clear BK101; clear HB; have BK101 := n0_; have HB := n1_; clear n0_ n1_; (try clear hb); (try clear hb2); (try clear hk); (try clear hi); have hcz12_0 : w11.cell? ⟨gb101, 0, none⟩ = some (.int .i64 a0_0) := (blk_cell BK101.out 0).trans rfl; have hcz12_1 : w11.cell? ⟨gb101, 1, none⟩ = some (.int .i64 a0_1) := (blk_cell BK101.out 1).trans rfl; have hcz12_2 : w11.cell? ⟨gb101, 2, none⟩ = some (.int .i64 a0_2) := (blk_cell BK101.out 2).trans rfl; have hcz12_3 : w11.cell? ⟨gb101, 3, none⟩ = some (.int .i64 a0_3) := (blk_cell BK101.out 3).trans rfl; have hcz12_4 : w11.cell? ⟨gb101, 4, none⟩ = some (.int .i64 a0_4) := (blk_cell BK101.out 4).trans rfl; have hcz12_5 : w11.cell? ⟨gb101, 5, none⟩ = some (.int .i64 a0_5) := (blk_cell BK101.out 5).trans rfl; have hfz12_0 := blk_frozen BK101.out 0; have hfz12_1 := blk_frozen BK101.out 1; have hfz12_2 := blk_frozen BK101.out 2; have hfz12_3 := blk_frozen BK101.out 3; have hfz12_4 := blk_frozen BK101.out 4; have hfz12_5 := blk_frozen BK101.out 5) | (go_at_call 61; (with_reducible refine (bits_All.calls a0_1 t104 t105 _ A6.out).mono ?_); rintro e w13 ⟨v106, rfl, ho0, hb⟩; have n0_ := Aside0.mk (Kd.R_lower ho0 (below_size (by repeat (first | (with_reducible first | exact HB.out | apply below_alloc | apply pw_below_drewN | apply below_drew1 | refine below_set ?_ GE101.out) | exact HB.out)))); have n1_ := Aside0.mk (blk_below (g := gb101) (o := .cells #[.int .i64 a0_0, .int .i64 a0_1, .int .i64 a0_2, .int .i64 a0_3, .int .i64 a0_4, .int .i64 a0_5] 23 (0, 0)) (by (with_reducible repeat (first | refine blk_drewN ?_ _ | refine blk_drew ?_ | refine blk_alloc ?_ _)); exact BK101.out) hb); have n2_ := Aside0.mk (below_step (by repeat (first | (with_reducible first | exact HB.out | apply below_alloc | apply pw_below_drewN | apply below_drew1 | refine below_set ?_ GE101.out) | exact HB.out)) hb); clear BK101; clear HB; have HO107 := n0_; have BK101 := n1_; have HB := n2_; clear n0_ n1_ n2_; (try clear hb); (try clear hb2); (try clear hk); (try clear hi); (try clear ho0); obtain ⟨Ao14, co14, eo14⟩ := Kd.R_slice HO107.out; subst eo14; have p108 : 0 ≤ (a2 : Int) := of_decide_eq_true (by first | (with_reducible assumption) | assumption); have q108 : a2 < (t104.length : Int) := of_decide_eq_true (by first | (with_reducible assumption) | assumption); obtain ⟨ad108, e108, hx108_0⟩ := Kd.at_int (Kd.R_reads' HO107.out).2.2 a2 p108 q108; cases e108; replace p108 := eq_true p108; replace q108 := eq_true q108))
        repeat (go_quiet (first | ((with_reducible refine gate_dst (N := 3) rfl ?_); refine box_event ?hg (N := 3) ?hd (cs := #[.int .i64 a0_0, .int .i64 a0_1, .int .i64 a0_2, .int .i64 a0_3, .int .i64 a0_4, .int .i64 a0_5]) (t := 23) ?hr ?_; (case hd => rfl); (case hg => rfl); (case hr => first | (go_simp; done) | (go_simp; rfl)); intro gb101 hg w9 hbox hb; have n0_ := Aside0.mk (below_step (by repeat (first | (with_reducible first | exact HB.out | apply below_alloc | apply pw_below_drewN | apply below_drew1) | exact HB.out)) hb); have n1_ := Aside0.mk (hbox); have n2_ := Aside0.mk ((by rw [hg]; exact (below_size (by repeat (first | (with_reducible first | exact HB.out | apply below_alloc | apply pw_below_drewN | apply below_drew1) | exact HB.out))) : w.heap.size ≤ gb101)); have n3_ := Aside0.mk ((by rw [hg]; exact (below_size (by repeat (first | (with_reducible first | exact HB.out | apply below_alloc | apply pw_below_drewN | apply below_drew1) | exact HB.out))) : w.heap.size ≤ gb101)); clear HB; have HB := n0_; have BK101 := n1_; have GW101 := n2_; have GE101 := n3_; clear n0_ n1_ n2_ n3_; clear hb hbox hg; have hcz10_0 : w9.cell? ⟨gb101, 0, none⟩ = some (.int .i64 a0_0) := (blk_cell BK101.out 0).trans rfl; have hcz10_1 : w9.cell? ⟨gb101, 1, none⟩ = some (.int .i64 a0_1) := (blk_cell BK101.out 1).trans rfl; have hcz10_2 : w9.cell? ⟨gb101, 2, none⟩ = some (.int .i64 a0_2) := (blk_cell BK101.out 2).trans rfl; have hcz10_3 : w9.cell? ⟨gb101, 3, none⟩ = some (.int .i64 a0_3) := (blk_cell BK101.out 3).trans rfl; have hcz10_4 : w9.cell? ⟨gb101, 4, none⟩ = some (.int .i64 a0_4) := (blk_cell BK101.out 4).trans rfl; have hcz10_5 : w9.cell? ⟨gb101, 5, none⟩ = some (.int .i64 a0_5) := (blk_cell BK101.out 5).trans rfl; have hfz10_0 := blk_frozen BK101.out 0; have hfz10_1 := blk_frozen BK101.out 1; have hfz10_2 := blk_frozen BK101.out 2; have hfz10_3 := blk_frozen BK101.out 3; have hfz10_4 := blk_frozen BK101.out 4; have hfz10_5 := blk_frozen BK101.out 5) | (go_at_call 142; (with_reducible refine (place_Page.calls a0_0 a0_1 a0_2 a0_3 a0_4 a0_5 a1 a2 t102 t103 _ A4.out).mono ?_); rintro e w11 ⟨rfl, hb⟩; have n0_ := Aside0.mk (blk_below (g := gb101) (o := .cells #[.int .i64 a0_0, .int .i64 a0_1, .int .i64 a0_2, .int .i64 a0_3, .int .i64 a0_4, .int .i64 a0_5] 23 (0, 0)) (by (with_reducible repeat (first | refine blk_drewN ?_ _ | refine blk_drew ?_ | refine blk_alloc ?_ _)); exact BK101.out) hb); have n1_ := Aside0.mk (below_step (by repeat (first | (with_reducible first | exact HB.out | apply below_alloc | apply pw_below_drewN | apply below_drew1 | refine below_set ?_ GE101.out) | exact HB.out)) hb); clear BK101; clear HB; have BK101 := n0_; have HB := n1_; clear n0_ n1_; (try clear hb); (try clear hb2); (try clear hk); (try clear hi); have hcz12_0 : w11.cell? ⟨gb101, 0, none⟩ = some (.int .i64 a0_0) := (blk_cell BK101.out 0).trans rfl; have hcz12_1 : w11.cell? ⟨gb101, 1, none⟩ = some (.int .i64 a0_1) := (blk_cell BK101.out 1).trans rfl; have hcz12_2 : w11.cell? ⟨gb101, 2, none⟩ = some (.int .i64 a0_2) := (blk_cell BK101.out 2).trans rfl; have hcz12_3 : w11.cell? ⟨gb101, 3, none⟩ = some (.int .i64 a0_3) := (blk_cell BK101.out 3).trans rfl; have hcz12_4 : w11.cell? ⟨gb101, 4, none⟩ = some (.int .i64 a0_4) := (blk_cell BK101.out 4).trans rfl; have hcz12_5 : w11.cell? ⟨gb101, 5, none⟩ = some (.int .i64 a0_5) := (blk_cell BK101.out 5).trans rfl; have hfz12_0 := blk_frozen BK101.out 0; have hfz12_1 := blk_frozen BK101.out 1; have hfz12_2 := blk_frozen BK101.out 2; have hfz12_3 := blk_frozen BK101.out 3; have hfz12_4 := blk_frozen BK101.out 4; have hfz12_5 := blk_frozen BK101.out 5) | (go_at_call 61; (with_reducible refine (bits_All.calls a0_1 t104 t105 _ A6.out).mono ?_); rintro e w13 ⟨v106, rfl, ho0, hb⟩; have n0_ := Aside0.mk (Kd.R_lower ho0 (below_size (by repeat (first | (with_reducible first | exact HB.out | apply below_alloc | apply pw_below_drewN | apply below_drew1 | refine below_set ?_ GE101.out) | exact HB.out)))); have n1_ := Aside0.mk (blk_below (g := gb101) (o := .cells #[.int .i64 a0_0, .int .i64 a0_1, .int .i64 a0_2, .int .i64 a0_3, .int .i64 a0_4, .int .i64 a0_5] 23 (0, 0)) (by (with_reducible repeat (first | refine blk_drewN ?_ _ | refine blk_drew ?_ | refine blk_alloc ?_ _)); exact BK101.out) hb); have n2_ := Aside0.mk (below_step (by repeat (first | (with_reducible first | exact HB.out | apply below_alloc | apply pw_below_drewN | apply below_drew1 | refine below_set ?_ GE101.out) | exact HB.out)) hb); clear BK101; clear HB; have HO107 := n0_; have BK101 := n1_; have HB := n2_; clear n0_ n1_ n2_; (try clear hb); (try clear hb2); (try clear hk); (try clear hi); (try clear ho0); obtain ⟨Ao14, co14, eo14⟩ := Kd.R_slice HO107.out; subst eo14; have p108 : 0 ≤ (a2 : Int) := of_decide_eq_true (by first | (with_reducible assumption) | assumption); have q108 : a2 < (t104.length : Int) := of_decide_eq_true (by first | (with_reducible assumption) | assumption); obtain ⟨ad108, e108, hx108_0⟩ := Kd.at_int (Kd.R_reads' HO107.out).2.2 a2 p108 q108; cases e108; replace p108 := eq_true p108; replace q108 := eq_true q108)); try go_wp2_with (first | ((with_reducible refine gate_dst (N := 3) rfl ?_); refine box_event ?hg (N := 3) ?hd (cs := #[.int .i64 a0_0, .int .i64 a0_1, .int .i64 a0_2, .int .i64 a0_3, .int .i64 a0_4, .int .i64 a0_5]) (t := 23) ?hr ?_; (case hd => rfl); (case hg => rfl); (case hr => first | (go_simp; done) | (go_simp; rfl)); intro gb101 hg w9 hbox hb; have n0_ := Aside0.mk (below_step (by repeat (first | (with_reducible first | exact HB.out | apply below_alloc | apply pw_below_drewN | apply below_drew1) | exact HB.out)) hb); have n1_ := Aside0.mk (hbox); have n2_ := Aside0.mk ((by rw [hg]; exact (below_size (by repeat (first | (with_reducible first | exact HB.out | apply below_alloc | apply pw_below_drewN | apply below_drew1) | exact HB.out))) : w.heap.size ≤ gb101)); have n3_ := Aside0.mk ((by rw [hg]; exact (below_size (by repeat (first | (with_reducible first | exact HB.out | apply below_alloc | apply pw_below_drewN | apply below_drew1) | exact HB.out))) : w.heap.size ≤ gb101)); clear HB; have HB := n0_; have BK101 := n1_; have GW101 := n2_; have GE101 := n3_; clear n0_ n1_ n2_ n3_; clear hb hbox hg; have hcz10_0 : w9.cell? ⟨gb101, 0, none⟩ = some (.int .i64 a0_0) := (blk_cell BK101.out 0).trans rfl; have hcz10_1 : w9.cell? ⟨gb101, 1, none⟩ = some (.int .i64 a0_1) := (blk_cell BK101.out 1).trans rfl; have hcz10_2 : w9.cell? ⟨gb101, 2, none⟩ = some (.int .i64 a0_2) := (blk_cell BK101.out 2).trans rfl; have hcz10_3 : w9.cell? ⟨gb101, 3, none⟩ = some (.int .i64 a0_3) := (blk_cell BK101.out 3).trans rfl; have hcz10_4 : w9.cell? ⟨gb101, 4, none⟩ = some (.int .i64 a0_4) := (blk_cell BK101.out 4).trans rfl; have hcz10_5 : w9.cell? ⟨gb101, 5, none⟩ = some (.int .i64 a0_5) := (blk_cell BK101.out 5).trans rfl; have hfz10_0 := blk_frozen BK101.out 0; have hfz10_1 := blk_frozen BK101.out 1; have hfz10_2 := blk_frozen BK101.out 2; have hfz10_3 := blk_frozen BK101.out 3; have hfz10_4 := blk_frozen BK101.out 4; have hfz10_5 := blk_frozen BK101.out 5) | (go_at_call 142; (with_reducible refine (place_Page.calls a0_0 a0_1 a0_2 a0_3 a0_4 a0_5 a1 a2 t102 t103 _ A4.out).mono ?_); rintro e w11 ⟨rfl, hb⟩; have n0_ := Aside0.mk (blk_below (g := gb101) (o := .cells #[.int .i64 a0_0, .int .i64 a0_1, .int .i64 a0_2, .int .i64 a0_3, .int .i64 a0_4, .int .i64 a0_5] 23 (0, 0)) (by (with_reducible repeat (first | refine blk_drewN ?_ _ | refine blk_drew ?_ | refine blk_alloc ?_ _)); exact BK101.out) hb); have n1_ := Aside0.mk (below_step (by repeat (first | (with_reducible first | exact HB.out | apply below_alloc | apply pw_below_drewN | apply below_drew1 | refine below_set ?_ GE101.out) | exact HB.out)) hb); clear BK101; clear HB; have BK101 := n0_; have HB := n1_; clear n0_ n1_; (try clear hb); (try clear hb2); (try clear hk); (try clear hi); have hcz12_0 : w11.cell? ⟨gb101, 0, none⟩ = some (.int .i64 a0_0) := (blk_cell BK101.out 0).trans rfl; have hcz12_1 : w11.cell? ⟨gb101, 1, none⟩ = some (.int .i64 a0_1) := (blk_cell BK101.out 1).trans rfl; have hcz12_2 : w11.cell? ⟨gb101, 2, none⟩ = some (.int .i64 a0_2) := (blk_cell BK101.out 2).trans rfl; have hcz12_3 : w11.cell? ⟨gb101, 3, none⟩ = some (.int .i64 a0_3) := (blk_cell BK101.out 3).trans rfl; have hcz12_4 : w11.cell? ⟨gb101, 4, none⟩ = some (.int .i64 a0_4) := (blk_cell BK101.out 4).trans rfl; have hcz12_5 : w11.cell? ⟨gb101, 5, none⟩ = some (.int .i64 a0_5) := (blk_cell BK101.out 5).trans rfl; have hfz12_0 := blk_frozen BK101.out 0; have hfz12_1 := blk_frozen BK101.out 1; have hfz12_2 := blk_frozen BK101.out 2; have hfz12_3 := blk_frozen BK101.out 3; have hfz12_4 := blk_frozen BK101.out 4; have hfz12_5 := blk_frozen BK101.out 5) | (go_at_call 61; (with_reducible refine (bits_All.calls a0_1 t104 t105 _ A6.out).mono ?_); rintro e w13 ⟨v106, rfl, ho0, hb⟩; have n0_ := Aside0.mk (Kd.R_lower ho0 (below_size (by repeat (first | (with_reducible first | exact HB.out | apply below_alloc | apply pw_below_drewN | apply below_drew1 | refine below_set ?_ GE101.out) | exact HB.out)))); have n1_ := Aside0.mk (blk_below (g := gb101) (o := .cells #[.int .i64 a0_0, .int .i64 a0_1, .int .i64 a0_2, .int .i64 a0_3, .int .i64 a0_4, .int .i64 a0_5] 23 (0, 0)) (by (with_reducible repeat (first | refine blk_drewN ?_ _ | refine blk_drew ?_ | refine blk_alloc ?_ _)); exact BK101.out) hb); have n2_ := Aside0.mk (below_step (by repeat (first | (with_reducible first | exact HB.out | apply below_alloc | apply pw_below_drewN | apply below_drew1 | refine below_set ?_ GE101.out) | exact HB.out)) hb); clear BK101; clear HB; have HO107 := n0_; have BK101 := n1_; have HB := n2_; clear n0_ n1_ n2_; (try clear hb); (try clear hb2); (try clear hk); (try clear hi); (try clear ho0); obtain ⟨Ao14, co14, eo14⟩ := Kd.R_slice HO107.out; subst eo14; have p108 : 0 ≤ (a2 : Int) := of_decide_eq_true (by first | (with_reducible assumption) | assumption); have q108 : a2 < (t104.length : Int) := of_decide_eq_true (by first | (with_reducible assumption) | assumption); obtain ⟨ad108, e108, hx108_0⟩ := Kd.at_int (Kd.R_reads' HO107.out).2.2 a2 p108 q108; cases e108; replace p108 := eq_true p108; replace q108 := eq_true q108)))
        go_ret3
        exact ⟨by first | rfl | (simp [errW_none, errW_some] <;> rfl) | (simp [*, errW_none, errW_some] <;> rfl), by repeat (first | (with_reducible first | exact HB.out | apply below_alloc | apply pw_below_drewN | apply below_drew1 | refine below_set ?_ GE101.out) | exact HB.out)⟩
      · rw [if_neg c8] at H
        exact absurd H (by simp)
    · rw [if_neg c7] at H
      exact absurd H (by simp)
  · rw [if_neg c5] at H
    have c5b0 : (t103 == 0) = false := beq_eq_false_iff_ne.mpr c5
    have c5b1 : (t103 != 0) = true := bne_iff_ne.mpr c5
    simp only [Option.some.injEq, Prod.mk.injEq] at H
    obtain ⟨rfl, rfl, rfl⟩ := H
    go_enter Try.func76, Try.ntmps76
    go_wp2_with (first | ((with_reducible refine gate_dst (N := 3) rfl ?_); refine box_event ?hg (N := 3) ?hd (cs := #[.int .i64 a0_0, .int .i64 a0_1, .int .i64 a0_2, .int .i64 a0_3, .int .i64 a0_4, .int .i64 a0_5]) (t := 23) ?hr ?_; (case hd => rfl); (case hg => rfl); (case hr => first | (go_simp; done) | (go_simp; rfl)); intro gb101 hg w15 hbox hb; have n0_ := Aside0.mk (below_step (by repeat (first | (with_reducible first | exact HB.out | apply below_alloc | apply pw_below_drewN | apply below_drew1) | exact HB.out)) hb); have n1_ := Aside0.mk (hbox); have n2_ := Aside0.mk ((by rw [hg]; exact (below_size (by repeat (first | (with_reducible first | exact HB.out | apply below_alloc | apply pw_below_drewN | apply below_drew1) | exact HB.out))) : w.heap.size ≤ gb101)); have n3_ := Aside0.mk ((by rw [hg]; exact (below_size (by repeat (first | (with_reducible first | exact HB.out | apply below_alloc | apply pw_below_drewN | apply below_drew1) | exact HB.out))) : w.heap.size ≤ gb101)); clear HB; have HB := n0_; have BK101 := n1_; have GW101 := n2_; have GE101 := n3_; clear n0_ n1_ n2_ n3_; clear hb hbox hg; have hcz16_0 : w15.cell? ⟨gb101, 0, none⟩ = some (.int .i64 a0_0) := (blk_cell BK101.out 0).trans rfl; have hcz16_1 : w15.cell? ⟨gb101, 1, none⟩ = some (.int .i64 a0_1) := (blk_cell BK101.out 1).trans rfl; have hcz16_2 : w15.cell? ⟨gb101, 2, none⟩ = some (.int .i64 a0_2) := (blk_cell BK101.out 2).trans rfl; have hcz16_3 : w15.cell? ⟨gb101, 3, none⟩ = some (.int .i64 a0_3) := (blk_cell BK101.out 3).trans rfl; have hcz16_4 : w15.cell? ⟨gb101, 4, none⟩ = some (.int .i64 a0_4) := (blk_cell BK101.out 4).trans rfl; have hcz16_5 : w15.cell? ⟨gb101, 5, none⟩ = some (.int .i64 a0_5) := (blk_cell BK101.out 5).trans rfl; have hfz16_0 := blk_frozen BK101.out 0; have hfz16_1 := blk_frozen BK101.out 1; have hfz16_2 := blk_frozen BK101.out 2; have hfz16_3 := blk_frozen BK101.out 3; have hfz16_4 := blk_frozen BK101.out 4; have hfz16_5 := blk_frozen BK101.out 5) | (go_at_call 142; (with_reducible refine (place_Page.calls a0_0 a0_1 a0_2 a0_3 a0_4 a0_5 a1 a2 t102 t103 _ A4.out).mono ?_); rintro e w17 ⟨rfl, hb⟩; have n0_ := Aside0.mk (blk_below (g := gb101) (o := .cells #[.int .i64 a0_0, .int .i64 a0_1, .int .i64 a0_2, .int .i64 a0_3, .int .i64 a0_4, .int .i64 a0_5] 23 (0, 0)) (by (with_reducible repeat (first | refine blk_drewN ?_ _ | refine blk_drew ?_ | refine blk_alloc ?_ _)); exact BK101.out) hb); have n1_ := Aside0.mk (below_step (by repeat (first | (with_reducible first | exact HB.out | apply below_alloc | apply pw_below_drewN | apply below_drew1 | refine below_set ?_ GE101.out) | exact HB.out)) hb); clear BK101; clear HB; have BK101 := n0_; have HB := n1_; clear n0_ n1_; (try clear hb); (try clear hb2); (try clear hk); (try clear hi)))
    repeat (go_quiet (first | ((with_reducible refine gate_dst (N := 3) rfl ?_); refine box_event ?hg (N := 3) ?hd (cs := #[.int .i64 a0_0, .int .i64 a0_1, .int .i64 a0_2, .int .i64 a0_3, .int .i64 a0_4, .int .i64 a0_5]) (t := 23) ?hr ?_; (case hd => rfl); (case hg => rfl); (case hr => first | (go_simp; done) | (go_simp; rfl)); intro gb101 hg w15 hbox hb; have n0_ := Aside0.mk (below_step (by repeat (first | (with_reducible first | exact HB.out | apply below_alloc | apply pw_below_drewN | apply below_drew1) | exact HB.out)) hb); have n1_ := Aside0.mk (hbox); have n2_ := Aside0.mk ((by rw [hg]; exact (below_size (by repeat (first | (with_reducible first | exact HB.out | apply below_alloc | apply pw_below_drewN | apply below_drew1) | exact HB.out))) : w.heap.size ≤ gb101)); have n3_ := Aside0.mk ((by rw [hg]; exact (below_size (by repeat (first | (with_reducible first | exact HB.out | apply below_alloc | apply pw_below_drewN | apply below_drew1) | exact HB.out))) : w.heap.size ≤ gb101)); clear HB; have HB := n0_; have BK101 := n1_; have GW101 := n2_; have GE101 := n3_; clear n0_ n1_ n2_ n3_; clear hb hbox hg; have hcz16_0 : w15.cell? ⟨gb101, 0, none⟩ = some (.int .i64 a0_0) := (blk_cell BK101.out 0).trans rfl; have hcz16_1 : w15.cell? ⟨gb101, 1, none⟩ = some (.int .i64 a0_1) := (blk_cell BK101.out 1).trans rfl; have hcz16_2 : w15.cell? ⟨gb101, 2, none⟩ = some (.int .i64 a0_2) := (blk_cell BK101.out 2).trans rfl; have hcz16_3 : w15.cell? ⟨gb101, 3, none⟩ = some (.int .i64 a0_3) := (blk_cell BK101.out 3).trans rfl; have hcz16_4 : w15.cell? ⟨gb101, 4, none⟩ = some (.int .i64 a0_4) := (blk_cell BK101.out 4).trans rfl; have hcz16_5 : w15.cell? ⟨gb101, 5, none⟩ = some (.int .i64 a0_5) := (blk_cell BK101.out 5).trans rfl; have hfz16_0 := blk_frozen BK101.out 0; have hfz16_1 := blk_frozen BK101.out 1; have hfz16_2 := blk_frozen BK101.out 2; have hfz16_3 := blk_frozen BK101.out 3; have hfz16_4 := blk_frozen BK101.out 4; have hfz16_5 := blk_frozen BK101.out 5) | (go_at_call 142; (with_reducible refine (place_Page.calls a0_0 a0_1 a0_2 a0_3 a0_4 a0_5 a1 a2 t102 t103 _ A4.out).mono ?_); rintro e w17 ⟨rfl, hb⟩; have n0_ := Aside0.mk (blk_below (g := gb101) (o := .cells #[.int .i64 a0_0, .int .i64 a0_1, .int .i64 a0_2, .int .i64 a0_3, .int .i64 a0_4, .int .i64 a0_5] 23 (0, 0)) (by (with_reducible repeat (first | refine blk_drewN ?_ _ | refine blk_drew ?_ | refine blk_alloc ?_ _)); exact BK101.out) hb); have n1_ := Aside0.mk (below_step (by repeat (first | (with_reducible first | exact HB.out | apply below_alloc | apply pw_below_drewN | apply below_drew1 | refine below_set ?_ GE101.out) | exact HB.out)) hb); clear BK101; clear HB; have BK101 := n0_; have HB := n1_; clear n0_ n1_; (try clear hb); (try clear hb2); (try clear hk); (try clear hi))); try go_wp2_with (first | ((with_reducible refine gate_dst (N := 3) rfl ?_); refine box_event ?hg (N := 3) ?hd (cs := #[.int .i64 a0_0, .int .i64 a0_1, .int .i64 a0_2, .int .i64 a0_3, .int .i64 a0_4, .int .i64 a0_5]) (t := 23) ?hr ?_; (case hd => rfl); (case hg => rfl); (case hr => first | (go_simp; done) | (go_simp; rfl)); intro gb101 hg w15 hbox hb; have n0_ := Aside0.mk (below_step (by repeat (first | (with_reducible first | exact HB.out | apply below_alloc | apply pw_below_drewN | apply below_drew1) | exact HB.out)) hb); have n1_ := Aside0.mk (hbox); have n2_ := Aside0.mk ((by rw [hg]; exact (below_size (by repeat (first | (with_reducible first | exact HB.out | apply below_alloc | apply pw_below_drewN | apply below_drew1) | exact HB.out))) : w.heap.size ≤ gb101)); have n3_ := Aside0.mk ((by rw [hg]; exact (below_size (by repeat (first | (with_reducible first | exact HB.out | apply below_alloc | apply pw_below_drewN | apply below_drew1) | exact HB.out))) : w.heap.size ≤ gb101)); clear HB; have HB := n0_; have BK101 := n1_; have GW101 := n2_; have GE101 := n3_; clear n0_ n1_ n2_ n3_; clear hb hbox hg; have hcz16_0 : w15.cell? ⟨gb101, 0, none⟩ = some (.int .i64 a0_0) := (blk_cell BK101.out 0).trans rfl; have hcz16_1 : w15.cell? ⟨gb101, 1, none⟩ = some (.int .i64 a0_1) := (blk_cell BK101.out 1).trans rfl; have hcz16_2 : w15.cell? ⟨gb101, 2, none⟩ = some (.int .i64 a0_2) := (blk_cell BK101.out 2).trans rfl; have hcz16_3 : w15.cell? ⟨gb101, 3, none⟩ = some (.int .i64 a0_3) := (blk_cell BK101.out 3).trans rfl; have hcz16_4 : w15.cell? ⟨gb101, 4, none⟩ = some (.int .i64 a0_4) := (blk_cell BK101.out 4).trans rfl; have hcz16_5 : w15.cell? ⟨gb101, 5, none⟩ = some (.int .i64 a0_5) := (blk_cell BK101.out 5).trans rfl; have hfz16_0 := blk_frozen BK101.out 0; have hfz16_1 := blk_frozen BK101.out 1; have hfz16_2 := blk_frozen BK101.out 2; have hfz16_3 := blk_frozen BK101.out 3; have hfz16_4 := blk_frozen BK101.out 4; have hfz16_5 := blk_frozen BK101.out 5) | (go_at_call 142; (with_reducible refine (place_Page.calls a0_0 a0_1 a0_2 a0_3 a0_4 a0_5 a1 a2 t102 t103 _ A4.out).mono ?_); rintro e w17 ⟨rfl, hb⟩; have n0_ := Aside0.mk (blk_below (g := gb101) (o := .cells #[.int .i64 a0_0, .int .i64 a0_1, .int .i64 a0_2, .int .i64 a0_3, .int .i64 a0_4, .int .i64 a0_5] 23 (0, 0)) (by (with_reducible repeat (first | refine blk_drewN ?_ _ | refine blk_drew ?_ | refine blk_alloc ?_ _)); exact BK101.out) hb); have n1_ := Aside0.mk (below_step (by repeat (first | (with_reducible first | exact HB.out | apply below_alloc | apply pw_below_drewN | apply below_drew1 | refine below_set ?_ GE101.out) | exact HB.out)) hb); clear BK101; clear HB; have BK101 := n0_; have HB := n1_; clear n0_ n1_; (try clear hb); (try clear hb2); (try clear hk); (try clear hi))))
    go_ret3
    exact ⟨by first | rfl | (simp [errW_none, errW_some] <;> rfl) | (simp [*, errW_none, errW_some] <;> rfl), by repeat (first | (with_reducible first | exact HB.out | apply below_alloc | apply pw_below_drewN | apply below_drew1 | refine below_set ?_ GE101.out) | exact HB.out)⟩
def page_text.f (a0 : Int) (a1 : Int) (a2 : Int) : Option (List Int) := (some (List.replicate 32 0 : List Int)).bind fun y109 => (if 0 < (y109.length : Int) then (if 1 < (y109.length : Int) then (if 2 < (y109.length : Int) then (if 3 < (y109.length : Int) then (some ((((y109.set (0 : Int).toNat 1).set (1 : Int).toNat ((a0) % 256)).set (2 : Int).toNat ((a1) % 256)).set (3 : Int).toNat a2)) else (none)) else (none)) else (none)) else (none))
set_option maxHeartbeats 8000000 in
set_option maxRecDepth 100000 in
theorem page_text.calls (a0 : Int) (a1 : Int) (a2 : Int) (r : List Int) (w : World) (h : page_text.f a0 a1 a2 = some r) :
    Calls Try.prog 77 #[.int .i64 a0, .int .i64 a1, .int .u8 a2] w fun e w' => ∃ v0_ : Value, e = .returned (v0_) ∧ Kd.R (Kd.int .u8) 5 w' w.heap.size (fun _ => True) v0_ r ∧ Below w.heap.size w w' := by
  have HB := Aside0.mk (Below.refl w.heap.size w)
  have H : ((some (List.replicate 32 0 : List Int)).bind fun y109 => (if 0 < (y109.length : Int) then (if 1 < (y109.length : Int) then (if 2 < (y109.length : Int) then (if 3 < (y109.length : Int) then (some ((((y109.set (0 : Int).toNat 1).set (1 : Int).toNat ((a0) % 256)).set (2 : Int).toNat ((a1) % 256)).set (3 : Int).toNat a2)) else (none)) else (none)) else (none)) else (none))) = some r := h
  clear h
  obtain ⟨y109, hy109⟩ : ∃ y_ : List Int, y_ = (List.replicate 32 0) := ⟨_, rfl⟩
  replace H : (if 0 < (y109.length : Int) then (if 1 < (y109.length : Int) then (if 2 < (y109.length : Int) then (if 3 < (y109.length : Int) then (some ((((y109.set (0 : Int).toNat 1).set (1 : Int).toNat ((a0) % 256)).set (2 : Int).toNat ((a1) % 256)).set (3 : Int).toNat a2)) else (none)) else (none)) else (none)) else (none)) = some r := by first | (rw [hy109]; with_reducible exact H) | (have H2_ := (Option.bind_some _ _).symm.trans H; rw [hy109]; with_reducible exact H2_) | (have H2_ := (Option.bind_some _ _).symm.trans H; with_reducible exact H2_) | with_reducible exact H | (rw [hy109]; exact H) | exact H
  have Ny109 := Aside0.mk hy109
  clear hy109
  by_cases c4 : 0 < (y109.length : Int)
  · rw [if_pos c4] at H
    have c4b0 : decide (0 < (y109.length : Int)) = true := decide_eq_true c4
    have c4b1 : decide (0 < y109.length) = true := decide_eq_true (by omega)
    clear c4
    obtain ⟨y112, hy112⟩ : ∃ y_ : List Int, y_ = (y109.set (0 : Int).toNat 1) := ⟨_, rfl⟩
    replace H : (if 1 < (y109.length : Int) then (if 2 < (y109.length : Int) then (if 3 < (y109.length : Int) then (some (((y112.set (1 : Int).toNat ((a0) % 256)).set (2 : Int).toNat ((a1) % 256)).set (3 : Int).toNat a2)) else (none)) else (none)) else (none)) = some r := by first | (rw [hy112]; with_reducible exact H) | (have H2_ := (Option.bind_some _ _).symm.trans H; rw [hy112]; with_reducible exact H2_) | (have H2_ := (Option.bind_some _ _).symm.trans H; with_reducible exact H2_) | with_reducible exact H | (rw [hy112]; exact H) | exact H
    have Ny112 := Aside0.mk hy112
    clear hy112
    by_cases c6 : 1 < (y109.length : Int)
    · rw [if_pos c6] at H
      have c6b0 : decide (1 < (y109.length : Int)) = true := decide_eq_true c6
      have c6b1 : decide (1 < y109.length) = true := decide_eq_true (by omega)
      clear c6
      obtain ⟨y113, hy113⟩ : ∃ y_ : List Int, y_ = (y112.set (1 : Int).toNat ((a0) % 256)) := ⟨_, rfl⟩
      replace H : (if 2 < (y109.length : Int) then (if 3 < (y109.length : Int) then (some ((y113.set (2 : Int).toNat ((a1) % 256)).set (3 : Int).toNat a2)) else (none)) else (none)) = some r := by first | (rw [hy113]; with_reducible exact H) | (have H2_ := (Option.bind_some _ _).symm.trans H; rw [hy113]; with_reducible exact H2_) | (have H2_ := (Option.bind_some _ _).symm.trans H; with_reducible exact H2_) | with_reducible exact H | (rw [hy113]; exact H) | exact H
      have Ny113 := Aside0.mk hy113
      clear hy113
      by_cases c8 : 2 < (y109.length : Int)
      · rw [if_pos c8] at H
        have c8b0 : decide (2 < (y109.length : Int)) = true := decide_eq_true c8
        have c8b1 : decide (2 < y109.length) = true := decide_eq_true (by omega)
        clear c8
        obtain ⟨y114, hy114⟩ : ∃ y_ : List Int, y_ = (y113.set (2 : Int).toNat ((a1) % 256)) := ⟨_, rfl⟩
        replace H : (if 3 < (y109.length : Int) then (some (y114.set (3 : Int).toNat a2)) else (none)) = some r := by first | (rw [hy114]; with_reducible exact H) | (have H2_ := (Option.bind_some _ _).symm.trans H; rw [hy114]; with_reducible exact H2_) | (have H2_ := (Option.bind_some _ _).symm.trans H; with_reducible exact H2_) | with_reducible exact H | (rw [hy114]; exact H) | exact H
        have Ny114 := Aside0.mk hy114
        clear hy114
        by_cases c10 : 3 < (y109.length : Int)
        · rw [if_pos c10] at H
          have c10b0 : decide (3 < (y109.length : Int)) = true := decide_eq_true c10
          have c10b1 : decide (3 < y109.length) = true := decide_eq_true (by omega)
          clear c10
          obtain ⟨y115, hy115⟩ : ∃ y_ : List Int, y_ = (y114.set (3 : Int).toNat a2) := ⟨_, rfl⟩
          replace H : (some y115) = some r := by first | (rw [hy115]; with_reducible exact H) | (have H2_ := (Option.bind_some _ _).symm.trans H; rw [hy115]; with_reducible exact H2_) | (have H2_ := (Option.bind_some _ _).symm.trans H; with_reducible exact H2_) | with_reducible exact H | (rw [hy115]; exact H) | exact H
          have Ny115 := Aside0.mk hy115
          clear hy115
          obtain rfl := Option.some.inj H
          go_enter Try.func77, Try.ntmps77
          go_wp2_with (first | ((with_reducible refine gate_dst (N := 8) rfl ?_); refine Kd.R_make (Kd.int .u8) _ 5 rfl (N := 8) rfl 24 _ _ rfl 32 rfl rfl Try.underlying24 (.int .u8 0) 1 info5 rfl (by decide) (by omega) 0 (ok := fun _ => True) (okp := fun _ => True) rfl (fun _ hk => hk) trivial (by omega) (by omega) (Below.refl _ _) (Nat.le_refl _) ?_; intro v110 w12 ho13 hb hg_ hnew_; clear hg_ hnew_; (first | rw [← Ny109.out] at ho13 | (simp only [Int.reduceToNat] at ho13; rw [← Ny109.out] at ho13)); have n0_ := Aside0.mk (Kd.R_lower ho13 (below_size (by repeat (first | (with_reducible first | exact HB.out | apply below_alloc | apply pw_below_drewN | apply below_drew1) | exact HB.out)))); have n1_ := Aside0.mk (below_step (by repeat (first | (with_reducible first | exact HB.out | apply below_alloc | apply pw_below_drewN | apply below_drew1) | exact HB.out)) hb); clear HB; have HO111 := n0_; have HB := n1_; clear n0_ n1_; clear hb ho13; have p5 : 0 ≤ (0 : Int) := (by omega); have q5 : (0 : Int) < ((y109.length : Int) : Int) := of_decide_eq_true (by first | (with_reducible assumption) | assumption); have qi5 : (0 < y109.length) = True := eq_true (by omega); obtain ⟨go5, co5, eo5, gb5, gl5, cl5, HG5⟩ := Kd.R_form HO111.out (by omega); (first | cases eo5 | (injection eo5 with ea_ en_ ec_; (first | subst ea_ | (injection ea_ with ea_; subst ea_)); subst ec_; clear en_)); have GB5 := Aside0.mk gb5; have GG5 := Aside0.mk HG5; clear gb5 gl5 HG5; obtain ⟨hx5_0, hf5_0⟩ := Kd.R_celln 0 HO111.out (0 : Int) p5 q5; (try rw [show ((0 : Int)).toNat = 0 from rfl] at hx5_0); (try simp only [Nat.reduceMul, Nat.zero_mul, Nat.zero_add, Nat.reduceAdd] at hx5_0); (try rw [show ((0 : Int)).toNat = 0 from rfl] at hf5_0); (try simp only [Nat.reduceMul, Nat.zero_mul, Nat.zero_add, Nat.reduceAdd] at hf5_0); replace p5 := eq_true p5; replace q5 := eq_true q5; obtain ⟨hy14_, hz14_⟩ := Kd.R_celln 0 HO111.out (0 : Int) (by omega) (of_decide_eq_true (by first | (with_reducible assumption) | assumption)); (try simp only [Int.reduceToNat, Int.toNat_zero, Int.toNat_ofNat, Nat.reduceMul, Nat.zero_mul, Nat.zero_add] at hy14_ hz14_); (try rw [show ((0 : Int)).toNat = 0 from rfl] at hy14_); (try rw [show ((0 : Int)).toNat = 0 from rfl] at hz14_); have HP14 := Kd.R_putg HO111.out (0 : Int) 1) | ((with_reducible refine gate_store (t := 5) (p := 18) rfl ?_); refine store_event (t := 5) (p := 18) (v := ?vo_w15) (w1 := (w12.setCell ⟨go5, (0 : Int).toNat, none⟩ (.int .u8 1))) ?hg ?ho ?hn ?hr ?_; (case ho => rfl); (case hg => rfl); (case hn => rfl); (case hr => first | (go_simp; done) | (go_simp; rfl)); intro w15 hw; have hg : w12.grownBy w15 (some go5) := (by rw [hw]; exact HP14.2); have hp_ : Kd.R (Kd.int .u8) 5 w15 w.heap.size (fun _ => True) (.slice (some ⟨go5, 0, none⟩) y109.length co5) y112 := (by rw [hw, Ny112.out]; exact HP14.1); clear HP14; have n0_ := Aside0.mk (hp_); have n1_ := Aside0.mk ((by rw [hw]; exact below_set (HB.out) GB5.out : Below w.heap.size w w15)); clear HO111; clear HB; have HO111 := n0_; have HB := n1_; clear n0_ n1_; clear hg hw hp_; have p7 : 0 ≤ (1 : Int) := (by omega); have q7 : (1 : Int) < ((y109.length : Int) : Int) := of_decide_eq_true (by first | (with_reducible assumption) | assumption); have qi7 : (1 < y109.length) = True := eq_true (by omega); obtain ⟨hx7_0, hf7_0⟩ := Kd.R_celln 0 HO111.out (1 : Int) p7 q7; (try rw [show ((1 : Int)).toNat = 1 from rfl] at hx7_0); (try simp only [Nat.reduceMul, Nat.zero_mul, Nat.zero_add, Nat.reduceAdd] at hx7_0); (try rw [show ((1 : Int)).toNat = 1 from rfl] at hf7_0); (try simp only [Nat.reduceMul, Nat.zero_mul, Nat.zero_add, Nat.reduceAdd] at hf7_0); replace p7 := eq_true p7; replace q7 := eq_true q7; obtain ⟨hy16_, hz16_⟩ := Kd.R_celln 0 HO111.out (1 : Int) (by omega) (of_decide_eq_true (by first | (with_reducible assumption) | assumption)); (try simp only [Int.reduceToNat, Int.toNat_zero, Int.toNat_ofNat, Nat.reduceMul, Nat.zero_mul, Nat.zero_add] at hy16_ hz16_); (try rw [show ((1 : Int)).toNat = 1 from rfl] at hy16_); (try rw [show ((1 : Int)).toNat = 1 from rfl] at hz16_); have HP16 := Kd.R_putg HO111.out (1 : Int) ((a0) % 256)) | ((with_reducible refine gate_store (t := 5) (p := 19) rfl ?_); refine store_event (t := 5) (p := 19) (v := ?vo_w17) (w1 := (w15.setCell ⟨go5, (1 : Int).toNat, none⟩ (.int .u8 ((a0) % 256)))) ?hg ?ho ?hn ?hr ?_; (case ho => rfl); (case hg => rfl); (case hn => rfl); (case hr => first | (go_simp; done) | (go_simp; rfl)); intro w17 hw; have hg : w15.grownBy w17 (some go5) := (by rw [hw]; exact HP16.2); have hp_ : Kd.R (Kd.int .u8) 5 w17 w.heap.size (fun _ => True) (.slice (some ⟨go5, 0, none⟩) y109.length co5) y113 := (by rw [hw, Ny113.out]; exact HP16.1); clear HP16; have n0_ := Aside0.mk (hp_); have n1_ := Aside0.mk ((by rw [hw]; exact below_set (HB.out) GB5.out : Below w.heap.size w w17)); clear HO111; clear HB; have HO111 := n0_; have HB := n1_; clear n0_ n1_; clear hg hw hp_; have p9 : 0 ≤ (2 : Int) := (by omega); have q9 : (2 : Int) < ((y109.length : Int) : Int) := of_decide_eq_true (by first | (with_reducible assumption) | assumption); have qi9 : (2 < y109.length) = True := eq_true (by omega); obtain ⟨hx9_0, hf9_0⟩ := Kd.R_celln 0 HO111.out (2 : Int) p9 q9; (try rw [show ((2 : Int)).toNat = 2 from rfl] at hx9_0); (try simp only [Nat.reduceMul, Nat.zero_mul, Nat.zero_add, Nat.reduceAdd] at hx9_0); (try rw [show ((2 : Int)).toNat = 2 from rfl] at hf9_0); (try simp only [Nat.reduceMul, Nat.zero_mul, Nat.zero_add, Nat.reduceAdd] at hf9_0); replace p9 := eq_true p9; replace q9 := eq_true q9; obtain ⟨hy18_, hz18_⟩ := Kd.R_celln 0 HO111.out (2 : Int) (by omega) (of_decide_eq_true (by first | (with_reducible assumption) | assumption)); (try simp only [Int.reduceToNat, Int.toNat_zero, Int.toNat_ofNat, Nat.reduceMul, Nat.zero_mul, Nat.zero_add] at hy18_ hz18_); (try rw [show ((2 : Int)).toNat = 2 from rfl] at hy18_); (try rw [show ((2 : Int)).toNat = 2 from rfl] at hz18_); have HP18 := Kd.R_putg HO111.out (2 : Int) ((a1) % 256)) | ((with_reducible refine gate_store (t := 5) (p := 20) rfl ?_); refine store_event (t := 5) (p := 20) (v := ?vo_w19) (w1 := (w17.setCell ⟨go5, (2 : Int).toNat, none⟩ (.int .u8 ((a1) % 256)))) ?hg ?ho ?hn ?hr ?_; (case ho => rfl); (case hg => rfl); (case hn => rfl); (case hr => first | (go_simp; done) | (go_simp; rfl)); intro w19 hw; have hg : w17.grownBy w19 (some go5) := (by rw [hw]; exact HP18.2); have hp_ : Kd.R (Kd.int .u8) 5 w19 w.heap.size (fun _ => True) (.slice (some ⟨go5, 0, none⟩) y109.length co5) y114 := (by rw [hw, Ny114.out]; exact HP18.1); clear HP18; have n0_ := Aside0.mk (hp_); have n1_ := Aside0.mk ((by rw [hw]; exact below_set (HB.out) GB5.out : Below w.heap.size w w19)); clear HO111; clear HB; have HO111 := n0_; have HB := n1_; clear n0_ n1_; clear hg hw hp_; have p11 : 0 ≤ (3 : Int) := (by omega); have q11 : (3 : Int) < ((y109.length : Int) : Int) := of_decide_eq_true (by first | (with_reducible assumption) | assumption); have qi11 : (3 < y109.length) = True := eq_true (by omega); obtain ⟨hx11_0, hf11_0⟩ := Kd.R_celln 0 HO111.out (3 : Int) p11 q11; (try rw [show ((3 : Int)).toNat = 3 from rfl] at hx11_0); (try simp only [Nat.reduceMul, Nat.zero_mul, Nat.zero_add, Nat.reduceAdd] at hx11_0); (try rw [show ((3 : Int)).toNat = 3 from rfl] at hf11_0); (try simp only [Nat.reduceMul, Nat.zero_mul, Nat.zero_add, Nat.reduceAdd] at hf11_0); replace p11 := eq_true p11; replace q11 := eq_true q11; obtain ⟨hy20_, hz20_⟩ := Kd.R_celln 0 HO111.out (3 : Int) (by omega) (of_decide_eq_true (by first | (with_reducible assumption) | assumption)); (try simp only [Int.reduceToNat, Int.toNat_zero, Int.toNat_ofNat, Nat.reduceMul, Nat.zero_mul, Nat.zero_add] at hy20_ hz20_); (try rw [show ((3 : Int)).toNat = 3 from rfl] at hy20_); (try rw [show ((3 : Int)).toNat = 3 from rfl] at hz20_); have HP20 := Kd.R_putg HO111.out (3 : Int) a2) | ((with_reducible refine gate_store (t := 5) (p := 21) rfl ?_); refine store_event (t := 5) (p := 21) (v := ?vo_w21) (w1 := (w19.setCell ⟨go5, (3 : Int).toNat, none⟩ (.int .u8 a2))) ?hg ?ho ?hn ?hr ?_; (case ho => rfl); (case hg => rfl); (case hn => rfl); (case hr => first | (go_simp; done) | (go_simp; rfl)); intro w21 hw; have hg : w19.grownBy w21 (some go5) := (by rw [hw]; exact HP20.2); have hp_ : Kd.R (Kd.int .u8) 5 w21 w.heap.size (fun _ => True) (.slice (some ⟨go5, 0, none⟩) y109.length co5) y115 := (by rw [hw, Ny115.out]; exact HP20.1); clear HP20; have n0_ := Aside0.mk (hp_); have n1_ := Aside0.mk ((by rw [hw]; exact below_set (HB.out) GB5.out : Below w.heap.size w w21)); clear HO111; clear HB; have HO111 := n0_; have HB := n1_; clear n0_ n1_; clear hg hw hp_))
          go_ret
          exact ⟨_, by first | rfl | (simp [errW_none, errW_some] <;> rfl) | (simp [*, errW_none, errW_some] <;> rfl), by (with_reducible repeat (first | apply Kd.R_alloc | apply Kd.R_drewN | apply Kd.R_drew)); exact HO111.out, by repeat (first | (with_reducible first | exact HB.out | apply below_alloc | apply pw_below_drewN | apply below_drew1) | exact HB.out)⟩
        · rw [if_neg c10] at H
          exact absurd H (by simp)
      · rw [if_neg c8] at H
        exact absurd H (by simp)
    · rw [if_neg c6] at H
      exact absurd H (by simp)
  · rw [if_neg c4] at H
    exact absurd H (by simp)
def page_Text.f (a0_0 : Int) (a0_1 : Int) (a0_2 : Int) (a0_3 : Int) (a0_4 : Int) (a0_5 : Int) (a1 : Int) (a2 : Int) (a3 : Int) : Option (List Int × Int) := (page_at.f a0_0 a0_1 a0_2 a0_3 a0_4 a0_5 a1 a2).bind fun bt117 => (if bt117.2.2 = 0 then (if (Go.bits .andNot .u8 a3 bt117.2.1) = 0 then ((page_text.f a1 a2 a3).bind fun t120 => (some (t120, 0))) else (some (([] : List Int), 2))) else (some (([] : List Int), bt117.2.2)))
set_option maxHeartbeats 8000000 in
set_option maxRecDepth 100000 in
theorem page_Text.calls (a0_0 : Int) (a0_1 : Int) (a0_2 : Int) (a0_3 : Int) (a0_4 : Int) (a0_5 : Int) (a1 : Int) (a2 : Int) (a3 : Int) (r1 : List Int) (r2 : Int) (w : World) (h : page_Text.f a0_0 a0_1 a0_2 a0_3 a0_4 a0_5 a1 a2 a3 = some (r1, r2)) :
    Calls Try.prog 15 #[.agg #[.int .i64 a0_0, .int .i64 a0_1, .int .i64 a0_2, .int .i64 a0_3, .int .i64 a0_4, .int .i64 a0_5], .int .i64 a1, .int .i64 a2, .int .u8 a3] w fun e w' => ∃ v0_ : Value, e = .returned (.tuple #[v0_, .int .i64 r2]) ∧ Kd.R (Kd.int .u8) 5 w' w.heap.size (fun _ => True) v0_ r1 ∧ Below w.heap.size w w' := by
  have hu23 := Try.underlying23
  have HB := Aside0.mk (Below.refl w.heap.size w)
  have H : ((page_at.f a0_0 a0_1 a0_2 a0_3 a0_4 a0_5 a1 a2).bind fun bt117 => (if bt117.2.2 = 0 then (if (Go.bits .andNot .u8 a3 bt117.2.1) = 0 then ((page_text.f a1 a2 a3).bind fun t120 => (some (t120, 0))) else (some (([] : List Int), 2))) else (some (([] : List Int), bt117.2.2)))) = some (r1, r2) := h
  clear h
  replace H := Option.bind_eq_some_iff.mp H
  obtain ⟨⟨t117, t118, t119⟩, A50, H⟩ := H
  replace H : (if t119 = 0 then (if (Go.bits .andNot .u8 a3 t118) = 0 then ((page_text.f a1 a2 a3).bind fun t120 => (some (t120, 0))) else (some (([] : List Int), 2))) else (some (([] : List Int), t119))) = some (r1, r2) := H
  have A5 := Aside0.mk A50
  clear A50
  by_cases c6 : t119 = 0
  · rw [if_pos c6] at H
    have c6b0 : (t119 == 0) = true := beq_iff_eq.mpr c6
    have c6b1 : (t119 != 0) = false := bne_eq_false_iff_eq.mpr c6
    clear c6
    by_cases c7 : (Go.bits .andNot .u8 a3 t118) = 0
    · rw [if_pos c7] at H
      have c7b0 : ((Go.bits .andNot .u8 a3 t118) == 0) = true := beq_iff_eq.mpr c7
      have c7b1 : ((Go.bits .andNot .u8 a3 t118) != 0) = false := bne_eq_false_iff_eq.mpr c7
      clear c7
      replace H := Option.bind_eq_some_iff.mp H
      obtain ⟨t120, A80, H⟩ := H
      replace H : (some (t120, 0)) = some (r1, r2) := H
      have A8 := Aside0.mk A80
      clear A80
      simp only [Option.some.injEq, Prod.mk.injEq] at H
      obtain ⟨rfl, rfl⟩ := H
      go_enter Try.func15, Try.ntmps15
      go_wp2_with (first | ((with_reducible refine gate_dst (N := 4) rfl ?_); refine box_event ?hg (N := 4) ?hd (cs := #[.int .i64 a0_0, .int .i64 a0_1, .int .i64 a0_2, .int .i64 a0_3, .int .i64 a0_4, .int .i64 a0_5]) (t := 23) ?hr ?_; (case hd => rfl); (case hg => rfl); (case hr => first | (go_simp; done) | (go_simp; rfl)); intro gb116 hg w9 hbox hb; have n0_ := Aside0.mk (below_step (by repeat (first | (with_reducible first | exact HB.out | apply below_alloc | apply pw_below_drewN | apply below_drew1) | exact HB.out)) hb); have n1_ := Aside0.mk (hbox); have n2_ := Aside0.mk ((by rw [hg]; exact (below_size (by repeat (first | (with_reducible first | exact HB.out | apply below_alloc | apply pw_below_drewN | apply below_drew1) | exact HB.out))) : w.heap.size ≤ gb116)); have n3_ := Aside0.mk ((by rw [hg]; exact (below_size (by repeat (first | (with_reducible first | exact HB.out | apply below_alloc | apply pw_below_drewN | apply below_drew1) | exact HB.out))) : w.heap.size ≤ gb116)); clear HB; have HB := n0_; have BK116 := n1_; have GW116 := n2_; have GE116 := n3_; clear n0_ n1_ n2_ n3_; clear hb hbox hg; have hcz10_0 : w9.cell? ⟨gb116, 0, none⟩ = some (.int .i64 a0_0) := (blk_cell BK116.out 0).trans rfl; have hcz10_1 : w9.cell? ⟨gb116, 1, none⟩ = some (.int .i64 a0_1) := (blk_cell BK116.out 1).trans rfl; have hcz10_2 : w9.cell? ⟨gb116, 2, none⟩ = some (.int .i64 a0_2) := (blk_cell BK116.out 2).trans rfl; have hcz10_3 : w9.cell? ⟨gb116, 3, none⟩ = some (.int .i64 a0_3) := (blk_cell BK116.out 3).trans rfl; have hcz10_4 : w9.cell? ⟨gb116, 4, none⟩ = some (.int .i64 a0_4) := (blk_cell BK116.out 4).trans rfl; have hcz10_5 : w9.cell? ⟨gb116, 5, none⟩ = some (.int .i64 a0_5) := (blk_cell BK116.out 5).trans rfl; have hfz10_0 := blk_frozen BK116.out 0; have hfz10_1 := blk_frozen BK116.out 1; have hfz10_2 := blk_frozen BK116.out 2; have hfz10_3 := blk_frozen BK116.out 3; have hfz10_4 := blk_frozen BK116.out 4; have hfz10_5 := blk_frozen BK116.out 5) | ((with_reducible refine gate_callee (f := 76) rfl ?_); refine goesL_ (some 17) rfl rfl Try.func76 (by kernel_rfl) rfl #[.agg #[.int .i64 a0_0, .int .i64 a0_1, .int .i64 a0_2, .int .i64 a0_3, .int .i64 a0_4, .int .i64 a0_5], .int .i64 a1, .int .i64 a2] rfl (by (try simp only [List.map_toArray, List.map_cons, List.map_nil]); first | done | rfl | (simp only [List.length_drop, List.length_take]; rfl)) ?_; (with_reducible refine (page_at.calls a0_0 a0_1 a0_2 a0_3 a0_4 a0_5 a1 a2 t117 t118 t119 _ A5.out).mono ?_); rintro e w11 ⟨rfl, hb⟩; refine ⟨_, rfl, ?_⟩; have n0_ := Aside0.mk (blk_below (g := gb116) (o := .cells #[.int .i64 a0_0, .int .i64 a0_1, .int .i64 a0_2, .int .i64 a0_3, .int .i64 a0_4, .int .i64 a0_5] 23 (0, 0)) (by (with_reducible repeat (first | refine blk_drewN ?_ _ | refine blk_drew ?_ | refine blk_alloc ?_ _)); exact BK116.out) hb); have n1_ := Aside0.mk (below_step (by repeat (first | (with_reducible first | exact HB.out | apply below_alloc | apply pw_below_drewN | apply below_drew1 | refine below_set ?_ GE116.out) | exact HB.out)) hb); clear BK116; clear HB; have BK116 := n0_; have HB := n1_; clear n0_ n1_; (try clear hb); (try clear hb2); (try clear hk); (try clear hi)) | ((with_reducible refine gate_callee (f := 77) rfl ?_); refine goesL_ (some 31) rfl rfl Try.func77 (by kernel_rfl) rfl #[.int .i64 a1, .int .i64 a2, .int .u8 a3] rfl (by (try simp only [List.map_toArray, List.map_cons, List.map_nil]); first | done | rfl | (simp only [List.length_drop, List.length_take]; rfl)) ?_; (with_reducible refine (page_text.calls a1 a2 a3 t120 _ A8.out).mono ?_); rintro e w12 ⟨v121, rfl, ho0, hb⟩; refine ⟨_, rfl, ?_⟩; have n0_ := Aside0.mk (Kd.R_lower ho0 (below_size (by repeat (first | (with_reducible first | exact HB.out | apply below_alloc | apply pw_below_drewN | apply below_drew1 | refine below_set ?_ GE116.out) | exact HB.out)))); have n1_ := Aside0.mk (blk_below (g := gb116) (o := .cells #[.int .i64 a0_0, .int .i64 a0_1, .int .i64 a0_2, .int .i64 a0_3, .int .i64 a0_4, .int .i64 a0_5] 23 (0, 0)) (by (with_reducible repeat (first | refine blk_drewN ?_ _ | refine blk_drew ?_ | refine blk_alloc ?_ _)); exact BK116.out) hb); have n2_ := Aside0.mk (below_step (by repeat (first | (with_reducible first | exact HB.out | apply below_alloc | apply pw_below_drewN | apply below_drew1 | refine below_set ?_ GE116.out) | exact HB.out)) hb); clear BK116; clear HB; have HO122 := n0_; have BK116 := n1_; have HB := n2_; clear n0_ n1_ n2_; (try clear hb); (try clear hb2); (try clear hk); (try clear hi); (try clear ho0)))
      go_ret2
      exact ⟨_, by first | rfl | (simp [errW_none, errW_some] <;> rfl) | (simp [*, errW_none, errW_some] <;> rfl), by (with_reducible repeat (first | apply Kd.R_alloc | apply Kd.R_drewN | apply Kd.R_drew)); exact HO122.out, by repeat (first | (with_reducible first | exact HB.out | apply below_alloc | apply pw_below_drewN | apply below_drew1 | refine below_set ?_ GE116.out) | exact HB.out)⟩
    · rw [if_neg c7] at H
      have c7b0 : ((Go.bits .andNot .u8 a3 t118) == 0) = false := beq_eq_false_iff_ne.mpr c7
      have c7b1 : ((Go.bits .andNot .u8 a3 t118) != 0) = true := bne_iff_ne.mpr c7
      simp only [Option.some.injEq, Prod.mk.injEq] at H
      obtain ⟨rfl, rfl⟩ := H
      go_enter Try.func15, Try.ntmps15
      go_wp2_with (first | ((with_reducible refine gate_dst (N := 4) rfl ?_); refine box_event ?hg (N := 4) ?hd (cs := #[.int .i64 a0_0, .int .i64 a0_1, .int .i64 a0_2, .int .i64 a0_3, .int .i64 a0_4, .int .i64 a0_5]) (t := 23) ?hr ?_; (case hd => rfl); (case hg => rfl); (case hr => first | (go_simp; done) | (go_simp; rfl)); intro gb116 hg w13 hbox hb; have n0_ := Aside0.mk (below_step (by repeat (first | (with_reducible first | exact HB.out | apply below_alloc | apply pw_below_drewN | apply below_drew1) | exact HB.out)) hb); have n1_ := Aside0.mk (hbox); have n2_ := Aside0.mk ((by rw [hg]; exact (below_size (by repeat (first | (with_reducible first | exact HB.out | apply below_alloc | apply pw_below_drewN | apply below_drew1) | exact HB.out))) : w.heap.size ≤ gb116)); have n3_ := Aside0.mk ((by rw [hg]; exact (below_size (by repeat (first | (with_reducible first | exact HB.out | apply below_alloc | apply pw_below_drewN | apply below_drew1) | exact HB.out))) : w.heap.size ≤ gb116)); clear HB; have HB := n0_; have BK116 := n1_; have GW116 := n2_; have GE116 := n3_; clear n0_ n1_ n2_ n3_; clear hb hbox hg; have hcz14_0 : w13.cell? ⟨gb116, 0, none⟩ = some (.int .i64 a0_0) := (blk_cell BK116.out 0).trans rfl; have hcz14_1 : w13.cell? ⟨gb116, 1, none⟩ = some (.int .i64 a0_1) := (blk_cell BK116.out 1).trans rfl; have hcz14_2 : w13.cell? ⟨gb116, 2, none⟩ = some (.int .i64 a0_2) := (blk_cell BK116.out 2).trans rfl; have hcz14_3 : w13.cell? ⟨gb116, 3, none⟩ = some (.int .i64 a0_3) := (blk_cell BK116.out 3).trans rfl; have hcz14_4 : w13.cell? ⟨gb116, 4, none⟩ = some (.int .i64 a0_4) := (blk_cell BK116.out 4).trans rfl; have hcz14_5 : w13.cell? ⟨gb116, 5, none⟩ = some (.int .i64 a0_5) := (blk_cell BK116.out 5).trans rfl; have hfz14_0 := blk_frozen BK116.out 0; have hfz14_1 := blk_frozen BK116.out 1; have hfz14_2 := blk_frozen BK116.out 2; have hfz14_3 := blk_frozen BK116.out 3; have hfz14_4 := blk_frozen BK116.out 4; have hfz14_5 := blk_frozen BK116.out 5) | ((with_reducible refine gate_callee (f := 76) rfl ?_); refine goesL_ (some 17) rfl rfl Try.func76 (by kernel_rfl) rfl #[.agg #[.int .i64 a0_0, .int .i64 a0_1, .int .i64 a0_2, .int .i64 a0_3, .int .i64 a0_4, .int .i64 a0_5], .int .i64 a1, .int .i64 a2] rfl (by (try simp only [List.map_toArray, List.map_cons, List.map_nil]); first | done | rfl | (simp only [List.length_drop, List.length_take]; rfl)) ?_; (with_reducible refine (page_at.calls a0_0 a0_1 a0_2 a0_3 a0_4 a0_5 a1 a2 t117 t118 t119 _ A5.out).mono ?_); rintro e w15 ⟨rfl, hb⟩; refine ⟨_, rfl, ?_⟩; have n0_ := Aside0.mk (blk_below (g := gb116) (o := .cells #[.int .i64 a0_0, .int .i64 a0_1, .int .i64 a0_2, .int .i64 a0_3, .int .i64 a0_4, .int .i64 a0_5] 23 (0, 0)) (by (with_reducible repeat (first | refine blk_drewN ?_ _ | refine blk_drew ?_ | refine blk_alloc ?_ _)); exact BK116.out) hb); have n1_ := Aside0.mk (below_step (by repeat (first | (with_reducible first | exact HB.out | apply below_alloc | apply pw_below_drewN | apply below_drew1 | refine below_set ?_ GE116.out) | exact HB.out)) hb); clear BK116; clear HB; have BK116 := n0_; have HB := n1_; clear n0_ n1_; (try clear hb); (try clear hb2); (try clear hk); (try clear hi)))
      go_ret2
      exact ⟨_, by first | rfl | (simp [errW_none, errW_some] <;> rfl) | (simp [*, errW_none, errW_some] <;> rfl), by first | exact Kd.R_nil _ _ _ _ _ | exact Kd.N_nil _ _ _ _ _ | exact Kd.V_nil _ _ _ _ _ | exact Kd.Q_nil _ _ _ _ _ | exact Kd.S_nil _ _ _ _ _, by repeat (first | (with_reducible first | exact HB.out | apply below_alloc | apply pw_below_drewN | apply below_drew1 | refine below_set ?_ GE116.out) | exact HB.out)⟩
  · rw [if_neg c6] at H
    have c6b0 : (t119 == 0) = false := beq_eq_false_iff_ne.mpr c6
    have c6b1 : (t119 != 0) = true := bne_iff_ne.mpr c6
    simp only [Option.some.injEq, Prod.mk.injEq] at H
    obtain ⟨rfl, rfl⟩ := H
    go_enter Try.func15, Try.ntmps15
    go_wp2_with (first | ((with_reducible refine gate_dst (N := 4) rfl ?_); refine box_event ?hg (N := 4) ?hd (cs := #[.int .i64 a0_0, .int .i64 a0_1, .int .i64 a0_2, .int .i64 a0_3, .int .i64 a0_4, .int .i64 a0_5]) (t := 23) ?hr ?_; (case hd => rfl); (case hg => rfl); (case hr => first | (go_simp; done) | (go_simp; rfl)); intro gb116 hg w16 hbox hb; have n0_ := Aside0.mk (below_step (by repeat (first | (with_reducible first | exact HB.out | apply below_alloc | apply pw_below_drewN | apply below_drew1) | exact HB.out)) hb); have n1_ := Aside0.mk (hbox); have n2_ := Aside0.mk ((by rw [hg]; exact (below_size (by repeat (first | (with_reducible first | exact HB.out | apply below_alloc | apply pw_below_drewN | apply below_drew1) | exact HB.out))) : w.heap.size ≤ gb116)); have n3_ := Aside0.mk ((by rw [hg]; exact (below_size (by repeat (first | (with_reducible first | exact HB.out | apply below_alloc | apply pw_below_drewN | apply below_drew1) | exact HB.out))) : w.heap.size ≤ gb116)); clear HB; have HB := n0_; have BK116 := n1_; have GW116 := n2_; have GE116 := n3_; clear n0_ n1_ n2_ n3_; clear hb hbox hg; have hcz17_0 : w16.cell? ⟨gb116, 0, none⟩ = some (.int .i64 a0_0) := (blk_cell BK116.out 0).trans rfl; have hcz17_1 : w16.cell? ⟨gb116, 1, none⟩ = some (.int .i64 a0_1) := (blk_cell BK116.out 1).trans rfl; have hcz17_2 : w16.cell? ⟨gb116, 2, none⟩ = some (.int .i64 a0_2) := (blk_cell BK116.out 2).trans rfl; have hcz17_3 : w16.cell? ⟨gb116, 3, none⟩ = some (.int .i64 a0_3) := (blk_cell BK116.out 3).trans rfl; have hcz17_4 : w16.cell? ⟨gb116, 4, none⟩ = some (.int .i64 a0_4) := (blk_cell BK116.out 4).trans rfl; have hcz17_5 : w16.cell? ⟨gb116, 5, none⟩ = some (.int .i64 a0_5) := (blk_cell BK116.out 5).trans rfl; have hfz17_0 := blk_frozen BK116.out 0; have hfz17_1 := blk_frozen BK116.out 1; have hfz17_2 := blk_frozen BK116.out 2; have hfz17_3 := blk_frozen BK116.out 3; have hfz17_4 := blk_frozen BK116.out 4; have hfz17_5 := blk_frozen BK116.out 5) | ((with_reducible refine gate_callee (f := 76) rfl ?_); refine goesL_ (some 17) rfl rfl Try.func76 (by kernel_rfl) rfl #[.agg #[.int .i64 a0_0, .int .i64 a0_1, .int .i64 a0_2, .int .i64 a0_3, .int .i64 a0_4, .int .i64 a0_5], .int .i64 a1, .int .i64 a2] rfl (by (try simp only [List.map_toArray, List.map_cons, List.map_nil]); first | done | rfl | (simp only [List.length_drop, List.length_take]; rfl)) ?_; (with_reducible refine (page_at.calls a0_0 a0_1 a0_2 a0_3 a0_4 a0_5 a1 a2 t117 t118 t119 _ A5.out).mono ?_); rintro e w18 ⟨rfl, hb⟩; refine ⟨_, rfl, ?_⟩; have n0_ := Aside0.mk (blk_below (g := gb116) (o := .cells #[.int .i64 a0_0, .int .i64 a0_1, .int .i64 a0_2, .int .i64 a0_3, .int .i64 a0_4, .int .i64 a0_5] 23 (0, 0)) (by (with_reducible repeat (first | refine blk_drewN ?_ _ | refine blk_drew ?_ | refine blk_alloc ?_ _)); exact BK116.out) hb); have n1_ := Aside0.mk (below_step (by repeat (first | (with_reducible first | exact HB.out | apply below_alloc | apply pw_below_drewN | apply below_drew1 | refine below_set ?_ GE116.out) | exact HB.out)) hb); clear BK116; clear HB; have BK116 := n0_; have HB := n1_; clear n0_ n1_; (try clear hb); (try clear hb2); (try clear hk); (try clear hi)))
    go_ret2
    exact ⟨_, by first | rfl | (simp [errW_none, errW_some] <;> rfl) | (simp [*, errW_none, errW_some] <;> rfl), by first | exact Kd.R_nil _ _ _ _ _ | exact Kd.N_nil _ _ _ _ _ | exact Kd.V_nil _ _ _ _ _ | exact Kd.Q_nil _ _ _ _ _ | exact Kd.S_nil _ _ _ _ _, by repeat (first | (with_reducible first | exact HB.out | apply below_alloc | apply pw_below_drewN | apply below_drew1 | refine below_set ?_ GE116.out) | exact HB.out)⟩
def page_Plan.f (a0_0 : Int) (a0_1 : Int) (a0_2 : Int) (a0_3 : Int) (a0_4 : Int) (a0_5 : Int) (a1 : Int) (a2 : Int) (a3 : Int) : Option (Int × List Int × Int) := (page_Text.f a0_0 a0_1 a0_2 a0_3 a0_4 a0_5 a1 a2 a3).bind fun bt125 => (if bt125.2 = 0 then ((page_at.f a0_0 a0_1 a0_2 a0_3 a0_4 a0_5 a1 a2).bind fun bt129 => (some (bt129.1, bt125.1, 0))) else (some (0, ([] : List Int), bt125.2)))
set_option maxHeartbeats 8000000 in
set_option maxRecDepth 100000 in
theorem page_Plan.calls (a0_0 : Int) (a0_1 : Int) (a0_2 : Int) (a0_3 : Int) (a0_4 : Int) (a0_5 : Int) (a1 : Int) (a2 : Int) (a3 : Int) (r1 : Int) (r2 : List Int) (r3 : Int) (w : World) (h : page_Plan.f a0_0 a0_1 a0_2 a0_3 a0_4 a0_5 a1 a2 a3 = some (r1, r2, r3)) :
    Calls Try.prog 17 #[.agg #[.int .i64 a0_0, .int .i64 a0_1, .int .i64 a0_2, .int .i64 a0_3, .int .i64 a0_4, .int .i64 a0_5], .int .i64 a1, .int .i64 a2, .int .u8 a3] w fun e w' => ∃ v1_ : Value, e = .returned (.tuple #[.agg #[.int .i64 r1, v1_], .int .i64 r3]) ∧ Kd.R (Kd.int .u8) 5 w' w.heap.size (fun _ => True) v1_ r2 ∧ Below w.heap.size w w' := by
  have hu23 := Try.underlying23
  have hu31 := Try.underlying31
  have HB := Aside0.mk (Below.refl w.heap.size w)
  have H : ((page_Text.f a0_0 a0_1 a0_2 a0_3 a0_4 a0_5 a1 a2 a3).bind fun bt125 => (if bt125.2 = 0 then ((page_at.f a0_0 a0_1 a0_2 a0_3 a0_4 a0_5 a1 a2).bind fun bt129 => (some (bt129.1, bt125.1, 0))) else (some (0, ([] : List Int), bt125.2)))) = some (r1, r2, r3) := h
  clear h
  replace H := Option.bind_eq_some_iff.mp H
  obtain ⟨⟨t125, t128⟩, A50, H⟩ := H
  replace H : (if t128 = 0 then ((page_at.f a0_0 a0_1 a0_2 a0_3 a0_4 a0_5 a1 a2).bind fun bt129 => (some (bt129.1, t125, 0))) else (some (0, ([] : List Int), t128))) = some (r1, r2, r3) := H
  have A5 := Aside0.mk A50
  clear A50
  by_cases c6 : t128 = 0
  · rw [if_pos c6] at H
    have c6b0 : (t128 == 0) = true := beq_iff_eq.mpr c6
    have c6b1 : (t128 != 0) = false := bne_eq_false_iff_eq.mpr c6
    clear c6
    replace H := Option.bind_eq_some_iff.mp H
    obtain ⟨⟨t129, t130, t131⟩, A70, H⟩ := H
    replace H : (some (t129, t125, 0)) = some (r1, r2, r3) := H
    have A7 := Aside0.mk A70
    clear A70
    simp only [Option.some.injEq, Prod.mk.injEq] at H
    obtain ⟨rfl, rfl, rfl⟩ := H
    go_enter Try.func17, Try.ntmps17
    go_wp2_with (first | ((with_reducible refine gate_dst (N := 4) rfl ?_); refine box_event ?hg (N := 4) ?hd (cs := #[.int .i64 a0_0, .int .i64 a0_1, .int .i64 a0_2, .int .i64 a0_3, .int .i64 a0_4, .int .i64 a0_5]) (t := 23) ?hr ?_; (case hd => rfl); (case hg => rfl); (case hr => first | (go_simp; done) | (go_simp; rfl)); intro gb123 hg w8 hbox hb; have n0_ := Aside0.mk (below_step (by repeat (first | (with_reducible first | exact HB.out | apply below_alloc | apply pw_below_drewN | apply below_drew1) | exact HB.out)) hb); have n1_ := Aside0.mk (hbox); have n2_ := Aside0.mk ((by rw [hg]; exact (below_size (by repeat (first | (with_reducible first | exact HB.out | apply below_alloc | apply pw_below_drewN | apply below_drew1) | exact HB.out))) : w.heap.size ≤ gb123)); have n3_ := Aside0.mk ((by rw [hg]; exact (below_size (by repeat (first | (with_reducible first | exact HB.out | apply below_alloc | apply pw_below_drewN | apply below_drew1) | exact HB.out))) : w.heap.size ≤ gb123)); clear HB; have HB := n0_; have BK123 := n1_; have GW123 := n2_; have GE123 := n3_; clear n0_ n1_ n2_ n3_; clear hb hbox hg) | ((with_reducible refine gate_dst (N := 8) rfl ?_); refine box_event ?hg (N := 8) ?hd (cs := #[.int .i64 0, .slice none 0 0]) (t := 31) ?hr ?_; (case hd => rfl); (case hg => rfl); (case hr => first | (go_simp; done) | (go_simp; rfl)); intro gb124 hg w9 hbox hb; have n0_ := Aside0.mk (blk_below (g := gb123) (o := .cells #[.int .i64 a0_0, .int .i64 a0_1, .int .i64 a0_2, .int .i64 a0_3, .int .i64 a0_4, .int .i64 a0_5] 23 (0, 0)) (by (with_reducible repeat (first | refine blk_drewN ?_ _ | refine blk_drew ?_ | refine blk_alloc ?_ _)); exact BK123.out) hb); have n1_ := Aside0.mk (below_step (by repeat (first | (with_reducible first | exact HB.out | apply below_alloc | apply pw_below_drewN | apply below_drew1 | refine below_set ?_ GE123.out) | exact HB.out)) hb); have n2_ := Aside0.mk (hbox); have n3_ := Aside0.mk ((by rw [hg]; exact (below_size (by repeat (first | (with_reducible first | exact HB.out | apply below_alloc | apply pw_below_drewN | apply below_drew1 | refine below_set ?_ GE123.out) | exact HB.out))) : w.heap.size ≤ gb124)); have n4_ := Aside0.mk ((by rw [hg]; exact (below_size (by repeat (first | (with_reducible first | exact HB.out | apply below_alloc | apply pw_below_drewN | apply below_drew1 | refine below_set ?_ GE123.out) | exact HB.out))) : w.heap.size ≤ gb124)); have n5_ := Aside0.mk ((by rw [hg]; exact Nat.ne_of_lt (blk_lt (g := gb123) (o := .cells #[.int .i64 a0_0, .int .i64 a0_1, .int .i64 a0_2, .int .i64 a0_3, .int .i64 a0_4, .int .i64 a0_5] 23 (0, 0)) (by (with_reducible repeat (first | refine blk_drewN ?_ _ | refine blk_drew ?_ | refine blk_alloc ?_ _)); exact BK123.out)) : gb123 ≠ gb124)); have n6_ := Aside0.mk ((by rw [hg]; exact Nat.ne_of_gt (blk_lt (g := gb123) (o := .cells #[.int .i64 a0_0, .int .i64 a0_1, .int .i64 a0_2, .int .i64 a0_3, .int .i64 a0_4, .int .i64 a0_5] 23 (0, 0)) (by (with_reducible repeat (first | refine blk_drewN ?_ _ | refine blk_drew ?_ | refine blk_alloc ?_ _)); exact BK123.out)) : gb124 ≠ gb123)); clear BK123; clear HB; have BK123 := n0_; have HB := n1_; have BK124 := n2_; have GW124 := n3_; have GE124 := n4_; have NB123_124 := n5_; have NB124_123 := n6_; clear n0_ n1_ n2_ n3_ n4_ n5_ n6_; clear hb hbox hg; have hnb10 := NB123_124.out; have hnc10 := NB124_123.out; have hcz11_0 : w9.cell? ⟨gb123, 0, none⟩ = some (.int .i64 a0_0) := (blk_cell BK123.out 0).trans rfl; have hcz11_1 : w9.cell? ⟨gb123, 1, none⟩ = some (.int .i64 a0_1) := (blk_cell BK123.out 1).trans rfl; have hcz11_2 : w9.cell? ⟨gb123, 2, none⟩ = some (.int .i64 a0_2) := (blk_cell BK123.out 2).trans rfl; have hcz11_3 : w9.cell? ⟨gb123, 3, none⟩ = some (.int .i64 a0_3) := (blk_cell BK123.out 3).trans rfl; have hcz11_4 : w9.cell? ⟨gb123, 4, none⟩ = some (.int .i64 a0_4) := (blk_cell BK123.out 4).trans rfl; have hcz11_5 : w9.cell? ⟨gb123, 5, none⟩ = some (.int .i64 a0_5) := (blk_cell BK123.out 5).trans rfl; have hfz11_0 := blk_frozen BK123.out 0; have hfz11_1 := blk_frozen BK123.out 1; have hfz11_2 := blk_frozen BK123.out 2; have hfz11_3 := blk_frozen BK123.out 3; have hfz11_4 := blk_frozen BK123.out 4; have hfz11_5 := blk_frozen BK123.out 5) | ((with_reducible refine gate_callee (f := 15) rfl ?_); refine goesL_ (some 20) rfl rfl Try.func15 (by kernel_rfl) rfl #[.agg #[.int .i64 a0_0, .int .i64 a0_1, .int .i64 a0_2, .int .i64 a0_3, .int .i64 a0_4, .int .i64 a0_5], .int .i64 a1, .int .i64 a2, .int .u8 a3] rfl (by (try simp only [List.map_toArray, List.map_cons, List.map_nil]); first | done | rfl | (simp only [List.length_drop, List.length_take]; rfl)) ?_; (with_reducible refine (page_Text.calls a0_0 a0_1 a0_2 a0_3 a0_4 a0_5 a1 a2 a3 t125 t128 _ A5.out).mono ?_); rintro e w12 ⟨v126, rfl, ho0, hb⟩; refine ⟨_, rfl, ?_⟩; have n0_ := Aside0.mk (Kd.R_lower ho0 (below_size (by repeat (first | (with_reducible first | exact HB.out | apply below_alloc | apply pw_below_drewN | apply below_drew1 | refine below_set ?_ GE123.out | refine below_set ?_ GE124.out) | exact HB.out)))); have n1_ := Aside0.mk (blk_below (g := gb123) (o := .cells #[.int .i64 a0_0, .int .i64 a0_1, .int .i64 a0_2, .int .i64 a0_3, .int .i64 a0_4, .int .i64 a0_5] 23 (0, 0)) (by (with_reducible repeat (first | refine blk_drewN ?_ _ | refine blk_drew ?_ | refine blk_alloc ?_ _)); exact BK123.out) hb); have n2_ := Aside0.mk (blk_below (g := gb124) (o := .cells #[.int .i64 0, .slice none 0 0] 31 (0, 0)) (by (with_reducible repeat (first | refine blk_drewN ?_ _ | refine blk_drew ?_ | refine blk_alloc ?_ _)); exact BK124.out) hb); have n3_ := Aside0.mk (below_step (by repeat (first | (with_reducible first | exact HB.out | apply below_alloc | apply pw_below_drewN | apply below_drew1 | refine below_set ?_ GE123.out | refine below_set ?_ GE124.out) | exact HB.out)) hb); clear BK123; clear BK124; clear HB; have HO127 := n0_; have BK123 := n1_; have BK124 := n2_; have HB := n3_; clear n0_ n1_ n2_ n3_; (try clear hb); (try clear hb2); (try clear hk); (try clear hi); (try clear ho0); have hcz13_0 : w12.cell? ⟨gb123, 0, none⟩ = some (.int .i64 a0_0) := (blk_cell BK123.out 0).trans rfl; have hcz13_1 : w12.cell? ⟨gb123, 1, none⟩ = some (.int .i64 a0_1) := (blk_cell BK123.out 1).trans rfl; have hcz13_2 : w12.cell? ⟨gb123, 2, none⟩ = some (.int .i64 a0_2) := (blk_cell BK123.out 2).trans rfl; have hcz13_3 : w12.cell? ⟨gb123, 3, none⟩ = some (.int .i64 a0_3) := (blk_cell BK123.out 3).trans rfl; have hcz13_4 : w12.cell? ⟨gb123, 4, none⟩ = some (.int .i64 a0_4) := (blk_cell BK123.out 4).trans rfl; have hcz13_5 : w12.cell? ⟨gb123, 5, none⟩ = some (.int .i64 a0_5) := (blk_cell BK123.out 5).trans rfl; have hfz13_0 := blk_frozen BK123.out 0; have hfz13_1 := blk_frozen BK123.out 1; have hfz13_2 := blk_frozen BK123.out 2; have hfz13_3 := blk_frozen BK123.out 3; have hfz13_4 := blk_frozen BK123.out 4; have hfz13_5 := blk_frozen BK123.out 5) | ((with_reducible refine gate_callee (f := 76) rfl ?_); refine goesL_ (some 31) rfl rfl Try.func76 (by kernel_rfl) rfl #[.agg #[.int .i64 a0_0, .int .i64 a0_1, .int .i64 a0_2, .int .i64 a0_3, .int .i64 a0_4, .int .i64 a0_5], .int .i64 a1, .int .i64 a2] rfl (by (try simp only [List.map_toArray, List.map_cons, List.map_nil]); first | done | rfl | (simp only [List.length_drop, List.length_take]; rfl)) ?_; (with_reducible refine (page_at.calls a0_0 a0_1 a0_2 a0_3 a0_4 a0_5 a1 a2 t129 t130 t131 _ A7.out).mono ?_); rintro e w14 ⟨rfl, hb⟩; refine ⟨_, rfl, ?_⟩; have n0_ := Aside0.mk (Kd.R_below (by (with_reducible repeat (first | apply Kd.R_alloc | apply Kd.R_drewN | apply Kd.R_drew)); exact HO127.out) hb); have n1_ := Aside0.mk (blk_below (g := gb123) (o := .cells #[.int .i64 a0_0, .int .i64 a0_1, .int .i64 a0_2, .int .i64 a0_3, .int .i64 a0_4, .int .i64 a0_5] 23 (0, 0)) (by (with_reducible repeat (first | refine blk_drewN ?_ _ | refine blk_drew ?_ | refine blk_alloc ?_ _)); exact BK123.out) hb); have n2_ := Aside0.mk (blk_below (g := gb124) (o := .cells #[.int .i64 0, .slice none 0 0] 31 (0, 0)) (by (with_reducible repeat (first | refine blk_drewN ?_ _ | refine blk_drew ?_ | refine blk_alloc ?_ _)); exact BK124.out) hb); have n3_ := Aside0.mk (below_step (by repeat (first | (with_reducible first | exact HB.out | apply below_alloc | apply pw_below_drewN | apply below_drew1 | refine below_set ?_ GE123.out | refine below_set ?_ GE124.out) | exact HB.out)) hb); clear HO127; clear BK123; clear BK124; clear HB; have HO127 := n0_; have BK123 := n1_; have BK124 := n2_; have HB := n3_; clear n0_ n1_ n2_ n3_; (try clear hb); (try clear hb2); (try clear hk); (try clear hi); obtain ⟨Ao15, co15, eo15⟩ := Kd.R_slice HO127.out; subst eo15; have hcz16_0 : w14.cell? ⟨gb124, 0, none⟩ = some (.int .i64 0) := (blk_cell BK124.out 0).trans rfl; have hcz16_1 : w14.cell? ⟨gb124, 1, none⟩ = some (.slice none 0 0) := (blk_cell BK124.out 1).trans rfl; have hfz16_0 := blk_frozen BK124.out 0; have hfz16_1 := blk_frozen BK124.out 1))
    refine bodyPost_ret (results_ct rfl _ _ gb124 31 #[.int .i64 t129, .slice Ao15 t125.length co15] (0, 0) _ rfl (by (with_reducible repeat (first | refine blk_drewN ?_ _ | refine blk_drew ?_ | refine blk_alloc ?_ _)); refine blk_put (cs := #[.int .i64 t129, .slice none 0 0]) ?_ 1 _ rfl; (with_reducible repeat (first | refine blk_drewN ?_ _ | refine blk_drew ?_ | refine blk_alloc ?_ _)); refine blk_put (cs := #[.int .i64 0, .slice none 0 0]) ?_ 0 _ rfl; (with_reducible repeat (first | refine blk_drewN ?_ _ | refine blk_drew ?_ | refine blk_alloc ?_ _)); exact BK124.out) Try.underlying31 rfl (by kernel_rfl)) rfl ?_
    exact ⟨_, by first | rfl | (simp [errW_none, errW_some] <;> rfl) | (simp [*, errW_none, errW_some] <;> rfl), by (with_reducible repeat (first | apply Kd.R_alloc | apply Kd.R_drewN | apply Kd.R_drew)); exact Kd.R_mono (Kd.R_far (p := ⟨gb124, 1, none⟩) (Kd.R_far (p := ⟨gb124, 0, none⟩) (Kd.R_types HO127.out BK124.out (by decide)) (fun _ hk => hk.2) (.int .i64 t129)) (fun _ hk => hk.2) (.slice Ao15 t125.length co15)) (fun _ hk => trivial), by repeat (first | (with_reducible first | exact HB.out | apply below_alloc | apply pw_below_drewN | apply below_drew1 | refine below_set ?_ GE123.out | refine below_set ?_ GE124.out) | exact HB.out)⟩
  · rw [if_neg c6] at H
    have c6b0 : (t128 == 0) = false := beq_eq_false_iff_ne.mpr c6
    have c6b1 : (t128 != 0) = true := bne_iff_ne.mpr c6
    simp only [Option.some.injEq, Prod.mk.injEq] at H
    obtain ⟨rfl, rfl, rfl⟩ := H
    go_enter Try.func17, Try.ntmps17
    go_wp2_with (first | ((with_reducible refine gate_dst (N := 4) rfl ?_); refine box_event ?hg (N := 4) ?hd (cs := #[.int .i64 a0_0, .int .i64 a0_1, .int .i64 a0_2, .int .i64 a0_3, .int .i64 a0_4, .int .i64 a0_5]) (t := 23) ?hr ?_; (case hd => rfl); (case hg => rfl); (case hr => first | (go_simp; done) | (go_simp; rfl)); intro gb123 hg w17 hbox hb; have n0_ := Aside0.mk (below_step (by repeat (first | (with_reducible first | exact HB.out | apply below_alloc | apply pw_below_drewN | apply below_drew1) | exact HB.out)) hb); have n1_ := Aside0.mk (hbox); have n2_ := Aside0.mk ((by rw [hg]; exact (below_size (by repeat (first | (with_reducible first | exact HB.out | apply below_alloc | apply pw_below_drewN | apply below_drew1) | exact HB.out))) : w.heap.size ≤ gb123)); have n3_ := Aside0.mk ((by rw [hg]; exact (below_size (by repeat (first | (with_reducible first | exact HB.out | apply below_alloc | apply pw_below_drewN | apply below_drew1) | exact HB.out))) : w.heap.size ≤ gb123)); clear HB; have HB := n0_; have BK123 := n1_; have GW123 := n2_; have GE123 := n3_; clear n0_ n1_ n2_ n3_; clear hb hbox hg) | ((with_reducible refine gate_dst (N := 8) rfl ?_); refine box_event ?hg (N := 8) ?hd (cs := #[.int .i64 0, .slice none 0 0]) (t := 31) ?hr ?_; (case hd => rfl); (case hg => rfl); (case hr => first | (go_simp; done) | (go_simp; rfl)); intro gb124 hg w18 hbox hb; have n0_ := Aside0.mk (blk_below (g := gb123) (o := .cells #[.int .i64 a0_0, .int .i64 a0_1, .int .i64 a0_2, .int .i64 a0_3, .int .i64 a0_4, .int .i64 a0_5] 23 (0, 0)) (by (with_reducible repeat (first | refine blk_drewN ?_ _ | refine blk_drew ?_ | refine blk_alloc ?_ _)); exact BK123.out) hb); have n1_ := Aside0.mk (below_step (by repeat (first | (with_reducible first | exact HB.out | apply below_alloc | apply pw_below_drewN | apply below_drew1 | refine below_set ?_ GE123.out) | exact HB.out)) hb); have n2_ := Aside0.mk (hbox); have n3_ := Aside0.mk ((by rw [hg]; exact (below_size (by repeat (first | (with_reducible first | exact HB.out | apply below_alloc | apply pw_below_drewN | apply below_drew1 | refine below_set ?_ GE123.out) | exact HB.out))) : w.heap.size ≤ gb124)); have n4_ := Aside0.mk ((by rw [hg]; exact (below_size (by repeat (first | (with_reducible first | exact HB.out | apply below_alloc | apply pw_below_drewN | apply below_drew1 | refine below_set ?_ GE123.out) | exact HB.out))) : w.heap.size ≤ gb124)); have n5_ := Aside0.mk ((by rw [hg]; exact Nat.ne_of_lt (blk_lt (g := gb123) (o := .cells #[.int .i64 a0_0, .int .i64 a0_1, .int .i64 a0_2, .int .i64 a0_3, .int .i64 a0_4, .int .i64 a0_5] 23 (0, 0)) (by (with_reducible repeat (first | refine blk_drewN ?_ _ | refine blk_drew ?_ | refine blk_alloc ?_ _)); exact BK123.out)) : gb123 ≠ gb124)); have n6_ := Aside0.mk ((by rw [hg]; exact Nat.ne_of_gt (blk_lt (g := gb123) (o := .cells #[.int .i64 a0_0, .int .i64 a0_1, .int .i64 a0_2, .int .i64 a0_3, .int .i64 a0_4, .int .i64 a0_5] 23 (0, 0)) (by (with_reducible repeat (first | refine blk_drewN ?_ _ | refine blk_drew ?_ | refine blk_alloc ?_ _)); exact BK123.out)) : gb124 ≠ gb123)); clear BK123; clear HB; have BK123 := n0_; have HB := n1_; have BK124 := n2_; have GW124 := n3_; have GE124 := n4_; have NB123_124 := n5_; have NB124_123 := n6_; clear n0_ n1_ n2_ n3_ n4_ n5_ n6_; clear hb hbox hg; have hnb19 := NB123_124.out; have hnc19 := NB124_123.out; have hcz20_0 : w18.cell? ⟨gb123, 0, none⟩ = some (.int .i64 a0_0) := (blk_cell BK123.out 0).trans rfl; have hcz20_1 : w18.cell? ⟨gb123, 1, none⟩ = some (.int .i64 a0_1) := (blk_cell BK123.out 1).trans rfl; have hcz20_2 : w18.cell? ⟨gb123, 2, none⟩ = some (.int .i64 a0_2) := (blk_cell BK123.out 2).trans rfl; have hcz20_3 : w18.cell? ⟨gb123, 3, none⟩ = some (.int .i64 a0_3) := (blk_cell BK123.out 3).trans rfl; have hcz20_4 : w18.cell? ⟨gb123, 4, none⟩ = some (.int .i64 a0_4) := (blk_cell BK123.out 4).trans rfl; have hcz20_5 : w18.cell? ⟨gb123, 5, none⟩ = some (.int .i64 a0_5) := (blk_cell BK123.out 5).trans rfl; have hfz20_0 := blk_frozen BK123.out 0; have hfz20_1 := blk_frozen BK123.out 1; have hfz20_2 := blk_frozen BK123.out 2; have hfz20_3 := blk_frozen BK123.out 3; have hfz20_4 := blk_frozen BK123.out 4; have hfz20_5 := blk_frozen BK123.out 5) | ((with_reducible refine gate_callee (f := 15) rfl ?_); refine goesL_ (some 20) rfl rfl Try.func15 (by kernel_rfl) rfl #[.agg #[.int .i64 a0_0, .int .i64 a0_1, .int .i64 a0_2, .int .i64 a0_3, .int .i64 a0_4, .int .i64 a0_5], .int .i64 a1, .int .i64 a2, .int .u8 a3] rfl (by (try simp only [List.map_toArray, List.map_cons, List.map_nil]); first | done | rfl | (simp only [List.length_drop, List.length_take]; rfl)) ?_; (with_reducible refine (page_Text.calls a0_0 a0_1 a0_2 a0_3 a0_4 a0_5 a1 a2 a3 t125 t128 _ A5.out).mono ?_); rintro e w21 ⟨v126, rfl, ho0, hb⟩; refine ⟨_, rfl, ?_⟩; have n0_ := Aside0.mk (Kd.R_lower ho0 (below_size (by repeat (first | (with_reducible first | exact HB.out | apply below_alloc | apply pw_below_drewN | apply below_drew1 | refine below_set ?_ GE123.out | refine below_set ?_ GE124.out) | exact HB.out)))); have n1_ := Aside0.mk (blk_below (g := gb123) (o := .cells #[.int .i64 a0_0, .int .i64 a0_1, .int .i64 a0_2, .int .i64 a0_3, .int .i64 a0_4, .int .i64 a0_5] 23 (0, 0)) (by (with_reducible repeat (first | refine blk_drewN ?_ _ | refine blk_drew ?_ | refine blk_alloc ?_ _)); exact BK123.out) hb); have n2_ := Aside0.mk (blk_below (g := gb124) (o := .cells #[.int .i64 0, .slice none 0 0] 31 (0, 0)) (by (with_reducible repeat (first | refine blk_drewN ?_ _ | refine blk_drew ?_ | refine blk_alloc ?_ _)); exact BK124.out) hb); have n3_ := Aside0.mk (below_step (by repeat (first | (with_reducible first | exact HB.out | apply below_alloc | apply pw_below_drewN | apply below_drew1 | refine below_set ?_ GE123.out | refine below_set ?_ GE124.out) | exact HB.out)) hb); clear BK123; clear BK124; clear HB; have HO127 := n0_; have BK123 := n1_; have BK124 := n2_; have HB := n3_; clear n0_ n1_ n2_ n3_; (try clear hb); (try clear hb2); (try clear hk); (try clear hi); (try clear ho0); have hcz22_0 : w21.cell? ⟨gb124, 0, none⟩ = some (.int .i64 0) := (blk_cell BK124.out 0).trans rfl; have hcz22_1 : w21.cell? ⟨gb124, 1, none⟩ = some (.slice none 0 0) := (blk_cell BK124.out 1).trans rfl; have hfz22_0 := blk_frozen BK124.out 0; have hfz22_1 := blk_frozen BK124.out 1))
    refine bodyPost_ret (results_ct rfl _ _ gb124 31 #[.int .i64 0, .slice none 0 0] (0, 0) _ rfl (by (with_reducible repeat (first | refine blk_drewN ?_ _ | refine blk_drew ?_ | refine blk_alloc ?_ _)); refine blk_put (cs := #[.int .i64 0, .slice none 0 0]) ?_ 1 _ rfl; (with_reducible repeat (first | refine blk_drewN ?_ _ | refine blk_drew ?_ | refine blk_alloc ?_ _)); refine blk_put (cs := #[.int .i64 0, .slice none 0 0]) ?_ 0 _ rfl; (with_reducible repeat (first | refine blk_drewN ?_ _ | refine blk_drew ?_ | refine blk_alloc ?_ _)); exact BK124.out) Try.underlying31 rfl (by kernel_rfl)) rfl ?_
    exact ⟨_, by first | rfl | (simp [errW_none, errW_some] <;> rfl) | (simp [*, errW_none, errW_some] <;> rfl), by first | exact Kd.R_nil _ _ _ _ _ | exact Kd.N_nil _ _ _ _ _ | exact Kd.V_nil _ _ _ _ _ | exact Kd.Q_nil _ _ _ _ _ | exact Kd.S_nil _ _ _ _ _, by repeat (first | (with_reducible first | exact HB.out | apply below_alloc | apply pw_below_drewN | apply below_drew1 | refine below_set ?_ GE123.out | refine below_set ?_ GE124.out) | exact HB.out)⟩
def catamaranref07_Many.f (a0_0 : Int) (a0_1 : Int) (a0_2 : Int) (a0_3 : Int) (a0_4 : Int) (a0_5 : Int) : Option (Int) := if a0_1 > 8 then (some 2) else (some 1)
set_option maxHeartbeats 8000000 in
set_option maxRecDepth 100000 in
theorem catamaranref07_Many.calls (a0_0 : Int) (a0_1 : Int) (a0_2 : Int) (a0_3 : Int) (a0_4 : Int) (a0_5 : Int) (r : Int) (w : World) (h : catamaranref07_Many.f a0_0 a0_1 a0_2 a0_3 a0_4 a0_5 = some r) :
    Calls Try.prog 145 #[.agg #[.int .i64 a0_0, .int .i64 a0_1, .int .i64 a0_2, .int .i64 a0_3, .int .i64 a0_4, .int .i64 a0_5]] w fun e w' => e = .returned (.int .i64 r) ∧ Below w.heap.size w w' := by
  have hu23 := Try.underlying23
  have HB := Aside0.mk (Below.refl w.heap.size w)
  have H : (if a0_1 > 8 then (some 2) else (some 1)) = some r := h
  clear h
  by_cases c2 : a0_1 > 8
  · rw [if_pos c2] at H
    have c2b0 : decide (8 < a0_1) = true := decide_eq_true c2
    clear c2
    obtain rfl := Option.some.inj H
    go_enter Try.func145, Try.ntmps145
    go_wp2_with (first | ((with_reducible refine gate_dst (N := 1) rfl ?_); refine box_event ?hg (N := 1) ?hd (cs := #[.int .i64 a0_0, .int .i64 a0_1, .int .i64 a0_2, .int .i64 a0_3, .int .i64 a0_4, .int .i64 a0_5]) (t := 23) ?hr ?_; (case hd => rfl); (case hg => rfl); (case hr => first | (go_simp; done) | (go_simp; rfl)); intro gb132 hg w3 hbox hb; have n0_ := Aside0.mk (below_step (by repeat (first | (with_reducible first | exact HB.out | apply below_alloc | apply pw_below_drewN | apply below_drew1) | exact HB.out)) hb); have n1_ := Aside0.mk (hbox); have n2_ := Aside0.mk ((by rw [hg]; exact (below_size (by repeat (first | (with_reducible first | exact HB.out | apply below_alloc | apply pw_below_drewN | apply below_drew1) | exact HB.out))) : w.heap.size ≤ gb132)); have n3_ := Aside0.mk ((by rw [hg]; exact (below_size (by repeat (first | (with_reducible first | exact HB.out | apply below_alloc | apply pw_below_drewN | apply below_drew1) | exact HB.out))) : w.heap.size ≤ gb132)); clear HB; have HB := n0_; have BK132 := n1_; have GW132 := n2_; have GE132 := n3_; clear n0_ n1_ n2_ n3_; clear hb hbox hg; have hcz4_0 : w3.cell? ⟨gb132, 0, none⟩ = some (.int .i64 a0_0) := (blk_cell BK132.out 0).trans rfl; have hcz4_1 : w3.cell? ⟨gb132, 1, none⟩ = some (.int .i64 a0_1) := (blk_cell BK132.out 1).trans rfl; have hcz4_2 : w3.cell? ⟨gb132, 2, none⟩ = some (.int .i64 a0_2) := (blk_cell BK132.out 2).trans rfl; have hcz4_3 : w3.cell? ⟨gb132, 3, none⟩ = some (.int .i64 a0_3) := (blk_cell BK132.out 3).trans rfl; have hcz4_4 : w3.cell? ⟨gb132, 4, none⟩ = some (.int .i64 a0_4) := (blk_cell BK132.out 4).trans rfl; have hcz4_5 : w3.cell? ⟨gb132, 5, none⟩ = some (.int .i64 a0_5) := (blk_cell BK132.out 5).trans rfl; have hfz4_0 := blk_frozen BK132.out 0; have hfz4_1 := blk_frozen BK132.out 1; have hfz4_2 := blk_frozen BK132.out 2; have hfz4_3 := blk_frozen BK132.out 3; have hfz4_4 := blk_frozen BK132.out 4; have hfz4_5 := blk_frozen BK132.out 5))
    go_ret
    exact ⟨by first | rfl | (simp [errW_none, errW_some] <;> rfl) | (simp [*, errW_none, errW_some] <;> rfl), by repeat (first | (with_reducible first | exact HB.out | apply below_alloc | apply pw_below_drewN | apply below_drew1 | refine below_set ?_ GE132.out) | exact HB.out)⟩
  · rw [if_neg c2] at H
    have c2b0 : decide (8 < a0_1) = false := decide_eq_false c2
    clear c2
    obtain rfl := Option.some.inj H
    go_enter Try.func145, Try.ntmps145
    go_wp2_with (first | ((with_reducible refine gate_dst (N := 1) rfl ?_); refine box_event ?hg (N := 1) ?hd (cs := #[.int .i64 a0_0, .int .i64 a0_1, .int .i64 a0_2, .int .i64 a0_3, .int .i64 a0_4, .int .i64 a0_5]) (t := 23) ?hr ?_; (case hd => rfl); (case hg => rfl); (case hr => first | (go_simp; done) | (go_simp; rfl)); intro gb132 hg w5 hbox hb; have n0_ := Aside0.mk (below_step (by repeat (first | (with_reducible first | exact HB.out | apply below_alloc | apply pw_below_drewN | apply below_drew1) | exact HB.out)) hb); have n1_ := Aside0.mk (hbox); have n2_ := Aside0.mk ((by rw [hg]; exact (below_size (by repeat (first | (with_reducible first | exact HB.out | apply below_alloc | apply pw_below_drewN | apply below_drew1) | exact HB.out))) : w.heap.size ≤ gb132)); have n3_ := Aside0.mk ((by rw [hg]; exact (below_size (by repeat (first | (with_reducible first | exact HB.out | apply below_alloc | apply pw_below_drewN | apply below_drew1) | exact HB.out))) : w.heap.size ≤ gb132)); clear HB; have HB := n0_; have BK132 := n1_; have GW132 := n2_; have GE132 := n3_; clear n0_ n1_ n2_ n3_; clear hb hbox hg; have hcz6_0 : w5.cell? ⟨gb132, 0, none⟩ = some (.int .i64 a0_0) := (blk_cell BK132.out 0).trans rfl; have hcz6_1 : w5.cell? ⟨gb132, 1, none⟩ = some (.int .i64 a0_1) := (blk_cell BK132.out 1).trans rfl; have hcz6_2 : w5.cell? ⟨gb132, 2, none⟩ = some (.int .i64 a0_2) := (blk_cell BK132.out 2).trans rfl; have hcz6_3 : w5.cell? ⟨gb132, 3, none⟩ = some (.int .i64 a0_3) := (blk_cell BK132.out 3).trans rfl; have hcz6_4 : w5.cell? ⟨gb132, 4, none⟩ = some (.int .i64 a0_4) := (blk_cell BK132.out 4).trans rfl; have hcz6_5 : w5.cell? ⟨gb132, 5, none⟩ = some (.int .i64 a0_5) := (blk_cell BK132.out 5).trans rfl; have hfz6_0 := blk_frozen BK132.out 0; have hfz6_1 := blk_frozen BK132.out 1; have hfz6_2 := blk_frozen BK132.out 2; have hfz6_3 := blk_frozen BK132.out 3; have hfz6_4 := blk_frozen BK132.out 4; have hfz6_5 := blk_frozen BK132.out 5))
    go_ret
    exact ⟨by first | rfl | (simp [errW_none, errW_some] <;> rfl) | (simp [*, errW_none, errW_some] <;> rfl), by repeat (first | (with_reducible first | exact HB.out | apply below_alloc | apply pw_below_drewN | apply below_drew1 | refine below_set ?_ GE132.out) | exact HB.out)⟩
def catamaranref07_first.f (a0_0 : Int) (a0_1 : Int) (a0_2 : Int) (a0_3 : Int) (a0_4 : Int) (a0_5 : Int) : Option (Int × Int × Int × Int) := (catamaranref07_Many.f a0_0 a0_1 a0_2 a0_3 a0_4 a0_5).bind fun t134 => (some (2, wrap64 (2 + (wrap64 (2 * a0_2))), wrap64 ((wrap64 (2 + (wrap64 (2 * a0_2)))) + (wrap64 (a0_0 * t134))), wrap64 ((wrap64 ((wrap64 (2 + (wrap64 (2 * a0_2)))) + (wrap64 (a0_0 * t134)))) + (wrap64 ((wrap64 (4 * a0_0)) * a0_1)))))
def catamaranref07_first.T3 : Bool × List (List Nat × List Nat) := (true, [([], []), ([], []), ([1], [1]), ([], []), ([3], [3]), ([2, 4], [2, 4]), ([0, 5], [0, 5]), ([6, 4, 0, 1, 2, 3, 4, 5, 6], [6])])
def catamaranref07_first.B3 : List Nat := [0, 0, 2, 0, 8, 30, 63, 127]
theorem catamaranref07_first.tab3 : rtab .any (opsOf Try.f147 3) = catamaranref07_first.T3 := by kernel_rfl
theorem catamaranref07_first.bits3 : waitsOk catamaranref07_first.T3.2 catamaranref07_first.B3 = true := by kernel_rfl
def catamaranref07_first.T4 : Bool × List (List Nat × List Nat) := (true, [([], []), ([], []), ([], []), ([], []), ([], []), ([4], [4]), ([5], [5]), ([], []), ([7], [7]), ([6, 8], [6, 8]), ([3, 9], [3, 9]), ([0, 0], [0]), ([1, 11, 0, 1, 11], [1]), ([2, 12, 0, 1, 2, 11, 12], [2]), ([10, 13, 0, 1, 2, 3, 4, 5, 6, 7, 8, 9, 10, 11, 12, 13], [10])])
def catamaranref07_first.B4 : List Nat := [0, 0, 0, 0, 0, 16, 48, 0, 128, 496, 1016, 1, 2051, 6151, 16383]
theorem catamaranref07_first.tab4 : rtab .any (opsOf Try.f147 4) = catamaranref07_first.T4 := by kernel_rfl
theorem catamaranref07_first.bits4 : waitsOk catamaranref07_first.T4.2 catamaranref07_first.B4 = true := by kernel_rfl
set_option maxHeartbeats 8000000 in
set_option maxRecDepth 100000 in
theorem catamaranref07_first.calls (a0_0 : Int) (a0_1 : Int) (a0_2 : Int) (a0_3 : Int) (a0_4 : Int) (a0_5 : Int) (r1 : Int) (r2 : Int) (r3 : Int) (r4 : Int) (w : World) (h : catamaranref07_first.f a0_0 a0_1 a0_2 a0_3 a0_4 a0_5 = some (r1, r2, r3, r4)) :
    Calls Try.prog 147 #[.agg #[.int .i64 a0_0, .int .i64 a0_1, .int .i64 a0_2, .int .i64 a0_3, .int .i64 a0_4, .int .i64 a0_5]] w fun e w' => e = .returned (.tuple #[.int .i64 r1, .int .i64 r2, .int .i64 r3, .int .i64 r4]) ∧ Below w.heap.size w w' := by
  have hu23 := Try.underlying23
  have HB := Aside0.mk (Below.refl w.heap.size w)
  have H : ((catamaranref07_Many.f a0_0 a0_1 a0_2 a0_3 a0_4 a0_5).bind fun t134 => (some (2, wrap64 (2 + (wrap64 (2 * a0_2))), wrap64 ((wrap64 (2 + (wrap64 (2 * a0_2)))) + (wrap64 (a0_0 * t134))), wrap64 ((wrap64 ((wrap64 (2 + (wrap64 (2 * a0_2)))) + (wrap64 (a0_0 * t134)))) + (wrap64 ((wrap64 (4 * a0_0)) * a0_1)))))) = some (r1, r2, r3, r4) := h
  clear h
  replace H := Option.bind_eq_some_iff.mp H
  obtain ⟨t134, A20, H⟩ := H
  replace H : (some (2, wrap64 (2 + (wrap64 (2 * a0_2))), wrap64 ((wrap64 (2 + (wrap64 (2 * a0_2)))) + (wrap64 (a0_0 * t134))), wrap64 ((wrap64 ((wrap64 (2 + (wrap64 (2 * a0_2)))) + (wrap64 (a0_0 * t134)))) + (wrap64 ((wrap64 (4 * a0_0)) * a0_1))))) = some (r1, r2, r3, r4) := H
  have A2 := Aside0.mk A20
  clear A20
  simp only [Option.some.injEq, Prod.mk.injEq] at H
  obtain ⟨rfl, rfl, rfl, rfl⟩ := H
  go_enter Try.func147, Try.ntmps147
  try go_wp2_with (first | ((with_reducible refine gate_dst (N := 1) rfl ?_); refine box_event ?hg (N := 1) ?hd (cs := #[.int .i64 a0_0, .int .i64 a0_1, .int .i64 a0_2, .int .i64 a0_3, .int .i64 a0_4, .int .i64 a0_5]) (t := 23) ?hr ?_; (case hd => rfl); (case hg => rfl); (case hr => first | (go_simp; done) | (go_simp; rfl)); intro gb133 hg w3 hbox hb; have n0_ := Aside0.mk (below_step (by repeat (first | (with_reducible first | exact HB.out | apply below_alloc | apply pw_below_drewN | apply below_drew1) | exact HB.out)) hb); have n1_ := Aside0.mk (hbox); have n2_ := Aside0.mk ((by rw [hg]; exact (below_size (by repeat (first | (with_reducible first | exact HB.out | apply below_alloc | apply pw_below_drewN | apply below_drew1) | exact HB.out))) : w.heap.size ≤ gb133)); have n3_ := Aside0.mk ((by rw [hg]; exact (below_size (by repeat (first | (with_reducible first | exact HB.out | apply below_alloc | apply pw_below_drewN | apply below_drew1) | exact HB.out))) : w.heap.size ≤ gb133)); clear HB; have HB := n0_; have BK133 := n1_; have GW133 := n2_; have GE133 := n3_; clear n0_ n1_ n2_ n3_; clear hb hbox hg; have hcz4_0 : w3.cell? ⟨gb133, 0, none⟩ = some (.int .i64 a0_0) := (blk_cell BK133.out 0).trans rfl; have hcz4_1 : w3.cell? ⟨gb133, 1, none⟩ = some (.int .i64 a0_1) := (blk_cell BK133.out 1).trans rfl; have hcz4_2 : w3.cell? ⟨gb133, 2, none⟩ = some (.int .i64 a0_2) := (blk_cell BK133.out 2).trans rfl; have hcz4_3 : w3.cell? ⟨gb133, 3, none⟩ = some (.int .i64 a0_3) := (blk_cell BK133.out 3).trans rfl; have hcz4_4 : w3.cell? ⟨gb133, 4, none⟩ = some (.int .i64 a0_4) := (blk_cell BK133.out 4).trans rfl; have hcz4_5 : w3.cell? ⟨gb133, 5, none⟩ = some (.int .i64 a0_5) := (blk_cell BK133.out 5).trans rfl; have hfz4_0 := blk_frozen BK133.out 0; have hfz4_1 := blk_frozen BK133.out 1; have hfz4_2 := blk_frozen BK133.out 2; have hfz4_3 := blk_frozen BK133.out 3; have hfz4_4 := blk_frozen BK133.out 4; have hfz4_5 := blk_frozen BK133.out 5))
  have n0_ := Aside0.mk (blk_drew BK133.out)
  have n1_ := Aside0.mk (below_drew1 HB.out)
  clear BK133
  clear HB
  have BK133 := n0_
  have HB := n1_
  clear n0_ n1_
  refine start_ (n := 8) (S := fun w' => w'.cell? ⟨gb133, 0, none⟩ = some (.int .i64 a0_0) ∧ w'.cell? ⟨gb133, 1, none⟩ = some (.int .i64 a0_1) ∧ w'.cell? ⟨gb133, 2, none⟩ = some (.int .i64 a0_2) ∧ w'.cell? ⟨gb133, 3, none⟩ = some (.int .i64 a0_3) ∧ w'.cell? ⟨gb133, 4, none⟩ = some (.int .i64 a0_4) ∧ w'.cell? ⟨gb133, 5, none⟩ = some (.int .i64 a0_5)) (ds := []) #[false, false, false, false, false, false, false, false] (by kernel_rfl) rfl rfl ⟨(blk_cell BK133.out 0).trans rfl, (blk_cell BK133.out 1).trans rfl, (blk_cell BK133.out 2).trans rfl, (blk_cell BK133.out 3).trans rfl, (blk_cell BK133.out 4).trans rfl, (blk_cell BK133.out 5).trans rfl⟩ (fun hHeld => ?_); refine with_tabW catamaranref07_first.tab3 catamaranref07_first.bits3 (fun HT_ HW_ => ?_)
  generalize w3.drew = w5 at BK133 HB hHeld ⊢
  refine pure_ (i := 0) (N := some 14) (v := ?_) (a' := ?_) #[true, false, false, false, false, false, false, false] rfl rfl (any_of HT_.out (by kernel_rfl)) (fun _ _ _ h => h) (Or.inl ⟨by rfl, ?_⟩) ?_ ?_
  rotate_left
  · intro w'
    go_simp
    with_reducible rfl
  rotate_left
  · simp only [Act.put, List.setIfInBounds_toArray, List.set_cons_zero, List.set_cons_succ, i64_w, i32_w]
    rfl
  refine pure_ (i := 1) (N := some 15) (v := ?_) (a' := ?_) #[true, true, false, false, false, false, false, false] rfl rfl (any_of HT_.out (by kernel_rfl)) (fun _ _ _ h => h) (Or.inl ⟨by rfl, ?_⟩) ?_ ?_
  rotate_left
  · intro w'
    go_simp
    with_reducible rfl
  rotate_left
  · simp only [Act.put, List.setIfInBounds_toArray, List.set_cons_zero, List.set_cons_succ, i64_w, i32_w]
    rfl
  refine take_ (i := 2) (N := some 16) (v := ?_) (a' := ?_) #[true, true, true, false, false, false, false, false] rfl rfl (take_ofW HT_.out HW_.out (by kernel_rfl)) (fun _ _ _ h => h) (Or.inl ⟨by rfl, ?_⟩) hHeld ?_ ?_
  rotate_left
  · rintro w' ⟨s0, s1, s2, s3, s4, s5⟩
    go_simp
    with_reducible rfl
  rotate_left
  · simp only [Act.put, List.setIfInBounds_toArray, List.set_cons_zero, List.set_cons_succ, i64_w, i32_w]
    rfl
  refine take_ (i := 3) (N := some 17) (v := ?_) (a' := ?_) #[true, true, true, true, false, false, false, false] rfl rfl (take_ofW HT_.out HW_.out (by kernel_rfl)) (fun _ _ _ h => h) (Or.inl ⟨by rfl, ?_⟩) hHeld ?_ ?_
  rotate_left
  · rintro w' ⟨s0, s1, s2, s3, s4, s5⟩
    go_simp
    with_reducible rfl
  rotate_left
  · simp only [Act.put, List.setIfInBounds_toArray, List.set_cons_zero, List.set_cons_succ, i64_w, i32_w]
    rfl
  refine one_ (i := 4) (N := some 18) #[true, true, true, true, true, false, false, false] rfl rfl (one_of HT_.out (by kernel_rfl)) (by decide) (fun K hK => ?_)
  refine goes_ Try.func145 (by kernel_rfl) rfl #[.agg #[.int .i64 a0_0, .int .i64 a0_1, .int .i64 a0_2, .int .i64 a0_3, .int .i64 a0_4, .int .i64 a0_5]] (by rfl) rfl rfl (by (try simp only [List.map_toArray, List.map_cons, List.map_nil]); first | done | rfl | (simp only [List.length_drop, List.length_take]; rfl)) ?_
  with_reducible refine (catamaranref07_Many.calls a0_0 a0_1 a0_2 a0_3 a0_4 a0_5 t134 _ A2.out).mono ?_
  rintro e w6 ⟨rfl, hb⟩
  refine ⟨_, rfl, ?_⟩
  have n0_ := Aside0.mk (blk_below (g := gb133) (o := .cells #[.int .i64 a0_0, .int .i64 a0_1, .int .i64 a0_2, .int .i64 a0_3, .int .i64 a0_4, .int .i64 a0_5] 23 (0, 0)) (by (with_reducible repeat (first | refine blk_drewN ?_ _ | refine blk_drew ?_ | refine blk_alloc ?_ _)); exact BK133.out) hb)
  have n1_ := Aside0.mk (below_step (by repeat (first | (with_reducible first | exact HB.out | apply below_alloc | apply pw_below_drewN | apply below_drew1 | refine below_set ?_ GE133.out) | exact HB.out)) hb)
  clear BK133
  clear HB
  have BK133 := n0_
  have HB := n1_
  clear n0_ n1_
  (try clear hb)
  (try clear hb2)
  (try clear hk)
  (try clear hi)
  refine hK.out _ _ ⟨(blk_cell BK133.out 0).trans rfl, (blk_cell BK133.out 1).trans rfl, (blk_cell BK133.out 2).trans rfl, (blk_cell BK133.out 3).trans rfl, (blk_cell BK133.out 4).trans rfl, (blk_cell BK133.out 5).trans rfl⟩ (fun hHeld => ?_)
  clear hK K
  refine norm_ (a' := ?_) ?_ ?_
  rotate_left
  · show Act.put _ (some 18) _ = _
    simp only [Act.put, List.setIfInBounds_toArray, List.set_cons_zero, List.set_cons_succ, i64_w, i32_w]
    rfl
  refine pure_ (i := 5) (N := some 19) (v := ?_) (a' := ?_) #[true, true, true, true, true, true, false, false] rfl rfl (any_of HT_.out (by kernel_rfl)) (fun _ _ _ h => h) (Or.inl ⟨by rfl, ?_⟩) ?_ ?_
  rotate_left
  · intro w'
    go_simp
    with_reducible rfl
  rotate_left
  · simp only [Act.put, List.setIfInBounds_toArray, List.set_cons_zero, List.set_cons_succ, i64_w, i32_w]
    rfl
  refine pure_ (i := 6) (N := some 20) (v := ?_) (a' := ?_) #[true, true, true, true, true, true, true, false] rfl rfl (any_of HT_.out (by kernel_rfl)) (fun _ _ _ h => h) (Or.inl ⟨by rfl, ?_⟩) ?_ ?_
  rotate_left
  · intro w'
    go_simp
    with_reducible rfl
  rotate_left
  · simp only [Act.put, List.setIfInBounds_toArray, List.set_cons_zero, List.set_cons_succ, i64_w, i32_w]
    rfl
  refine pure_ (i := 7) (N := some 8) (v := ?_) (a' := ?_) #[true, true, true, true, true, true, true, true] rfl rfl (any_of HT_.out (by kernel_rfl)) (fun _ _ _ h => h) (Or.inl ⟨by rfl, ?_⟩) ?_ ?_
  rotate_left
  · intro w'
    go_simp
    with_reducible rfl
  rotate_left
  · simp only [Act.put, List.setIfInBounds_toArray, List.set_cons_zero, List.set_cons_succ, i64_w, i32_w]
    rfl
  refine done_ (done_of HT_.out (by kernel_rfl)) ?_
  try go_wp2
  have n0_ := Aside0.mk (blk_drew BK133.out)
  have n1_ := Aside0.mk (below_drew1 HB.out)
  clear BK133
  clear HB
  have BK133 := n0_
  have HB := n1_
  clear n0_ n1_
  refine start_ (n := 15) (S := fun w' => w'.cell? ⟨gb133, 0, none⟩ = some (.int .i64 a0_0) ∧ w'.cell? ⟨gb133, 1, none⟩ = some (.int .i64 a0_1) ∧ w'.cell? ⟨gb133, 2, none⟩ = some (.int .i64 a0_2) ∧ w'.cell? ⟨gb133, 3, none⟩ = some (.int .i64 a0_3) ∧ w'.cell? ⟨gb133, 4, none⟩ = some (.int .i64 a0_4) ∧ w'.cell? ⟨gb133, 5, none⟩ = some (.int .i64 a0_5)) (ds := []) #[false, false, false, false, false, false, false, false, false, false, false, false, false, false, false] (by kernel_rfl) rfl rfl ⟨(blk_cell BK133.out 0).trans rfl, (blk_cell BK133.out 1).trans rfl, (blk_cell BK133.out 2).trans rfl, (blk_cell BK133.out 3).trans rfl, (blk_cell BK133.out 4).trans rfl, (blk_cell BK133.out 5).trans rfl⟩ (fun hHeld => ?_); refine with_tabW catamaranref07_first.tab4 catamaranref07_first.bits4 (fun HT_ HW_ => ?_)
  generalize w6.drew = w7 at BK133 HB hHeld ⊢
  refine pure_ (i := 0) (N := some 21) (v := ?_) (a' := ?_) #[true, false, false, false, false, false, false, false, false, false, false, false, false, false, false] rfl rfl (any_of HT_.out (by kernel_rfl)) (fun _ _ _ h => h) (Or.inl ⟨by rfl, ?_⟩) ?_ ?_
  rotate_left
  · intro w'
    go_simp
    with_reducible rfl
  rotate_left
  · simp only [Act.put, List.setIfInBounds_toArray, List.set_cons_zero, List.set_cons_succ, i64_w, i32_w]
    rfl
  refine pure_ (i := 1) (N := some 22) (v := ?_) (a' := ?_) #[true, true, false, false, false, false, false, false, false, false, false, false, false, false, false] rfl rfl (any_of HT_.out (by kernel_rfl)) (fun _ _ _ h => h) (Or.inl ⟨by rfl, ?_⟩) ?_ ?_
  rotate_left
  · intro w'
    go_simp
    with_reducible rfl
  rotate_left
  · simp only [Act.put, List.setIfInBounds_toArray, List.set_cons_zero, List.set_cons_succ, i64_w, i32_w]
    rfl
  refine pure_ (i := 2) (N := some 23) (v := ?_) (a' := ?_) #[true, true, true, false, false, false, false, false, false, false, false, false, false, false, false] rfl rfl (any_of HT_.out (by kernel_rfl)) (fun _ _ _ h => h) (Or.inl ⟨by rfl, ?_⟩) ?_ ?_
  rotate_left
  · intro w'
    go_simp
    with_reducible rfl
  rotate_left
  · simp only [Act.put, List.setIfInBounds_toArray, List.set_cons_zero, List.set_cons_succ, i64_w, i32_w]
    rfl
  refine pure_ (i := 3) (N := some 24) (v := ?_) (a' := ?_) #[true, true, true, true, false, false, false, false, false, false, false, false, false, false, false] rfl rfl (any_of HT_.out (by kernel_rfl)) (fun _ _ _ h => h) (Or.inl ⟨by rfl, ?_⟩) ?_ ?_
  rotate_left
  · intro w'
    go_simp
    with_reducible rfl
  rotate_left
  · simp only [Act.put, List.setIfInBounds_toArray, List.set_cons_zero, List.set_cons_succ, i64_w, i32_w]
    rfl
  refine pure_ (i := 4) (N := some 25) (v := ?_) (a' := ?_) #[true, true, true, true, true, false, false, false, false, false, false, false, false, false, false] rfl rfl (any_of HT_.out (by kernel_rfl)) (fun _ _ _ h => h) (Or.inl ⟨by rfl, ?_⟩) ?_ ?_
  rotate_left
  · intro w'
    go_simp
    with_reducible rfl
  rotate_left
  · simp only [Act.put, List.setIfInBounds_toArray, List.set_cons_zero, List.set_cons_succ, i64_w, i32_w]
    rfl
  refine pure_ (i := 7) (N := some 28) (v := ?_) (a' := ?_) #[true, true, true, true, true, false, false, true, false, false, false, false, false, false, false] rfl rfl (any_of HT_.out (by kernel_rfl)) (fun _ _ _ h => h) (Or.inl ⟨by rfl, ?_⟩) ?_ ?_
  rotate_left
  · intro w'
    go_simp
    with_reducible rfl
  rotate_left
  · simp only [Act.put, List.setIfInBounds_toArray, List.set_cons_zero, List.set_cons_succ, i64_w, i32_w]
    rfl
  refine pure_ (i := 11) (N := some 2) (v := ?_) (a' := ?_) #[true, true, true, true, true, false, false, true, false, false, false, true, false, false, false] rfl rfl (any_of HT_.out (by kernel_rfl)) (fun _ _ _ h => h) (Or.inl ⟨by rfl, ?_⟩) ?_ ?_
  rotate_left
  · intro w'
    go_simp
    with_reducible rfl
  rotate_left
  · simp only [Act.put, List.setIfInBounds_toArray, List.set_cons_zero, List.set_cons_succ, i64_w, i32_w]
    rfl
  refine pure_ (i := 12) (N := some 3) (v := ?_) (a' := ?_) #[true, true, true, true, true, false, false, true, false, false, false, true, true, false, false] rfl rfl (any_of HT_.out (by kernel_rfl)) (fun _ _ _ h => h) (Or.inl ⟨by rfl, ?_⟩) ?_ ?_
  rotate_left
  · intro w'
    go_simp
    with_reducible rfl
  rotate_left
  · simp only [Act.put, List.setIfInBounds_toArray, List.set_cons_zero, List.set_cons_succ, i64_w, i32_w]
    rfl
  refine pure_ (i := 13) (N := some 4) (v := ?_) (a' := ?_) #[true, true, true, true, true, false, false, true, false, false, false, true, true, true, false] rfl rfl (any_of HT_.out (by kernel_rfl)) (fun _ _ _ h => h) (Or.inl ⟨by rfl, ?_⟩) ?_ ?_
  rotate_left
  · intro w'
    go_simp
    with_reducible rfl
  rotate_left
  · simp only [Act.put, List.setIfInBounds_toArray, List.set_cons_zero, List.set_cons_succ, i64_w, i32_w]
    rfl
  refine take_ (i := 5) (N := some 26) (v := ?_) (a' := ?_) #[true, true, true, true, true, true, false, true, false, false, false, true, true, true, false] rfl rfl (take_ofW HT_.out HW_.out (by kernel_rfl)) (fun _ _ _ h => h) (Or.inl ⟨by rfl, ?_⟩) hHeld ?_ ?_
  rotate_left
  · rintro w' ⟨s0, s1, s2, s3, s4, s5⟩
    go_simp
    with_reducible rfl
  rotate_left
  · simp only [Act.put, List.setIfInBounds_toArray, List.set_cons_zero, List.set_cons_succ, i64_w, i32_w]
    rfl
  refine pure_ (i := 6) (N := some 27) (v := ?_) (a' := ?_) #[true, true, true, true, true, true, true, true, false, false, false, true, true, true, false] rfl rfl (any_of HT_.out (by kernel_rfl)) (fun _ _ _ h => h) (Or.inl ⟨by rfl, ?_⟩) ?_ ?_
  rotate_left
  · intro w'
    go_simp
    with_reducible rfl
  rotate_left
  · simp only [Act.put, List.setIfInBounds_toArray, List.set_cons_zero, List.set_cons_succ, i64_w, i32_w]
    rfl
  refine take_ (i := 8) (N := some 29) (v := ?_) (a' := ?_) #[true, true, true, true, true, true, true, true, true, false, false, true, true, true, false] rfl rfl (take_ofW HT_.out HW_.out (by kernel_rfl)) (fun _ _ _ h => h) (Or.inl ⟨by rfl, ?_⟩) hHeld ?_ ?_
  rotate_left
  · rintro w' ⟨s0, s1, s2, s3, s4, s5⟩
    go_simp
    with_reducible rfl
  rotate_left
  · simp only [Act.put, List.setIfInBounds_toArray, List.set_cons_zero, List.set_cons_succ, i64_w, i32_w]
    rfl
  refine pure_ (i := 9) (N := some 30) (v := ?_) (a' := ?_) #[true, true, true, true, true, true, true, true, true, true, false, true, true, true, false] rfl rfl (any_of HT_.out (by kernel_rfl)) (fun _ _ _ h => h) (Or.inl ⟨by rfl, ?_⟩) ?_ ?_
  rotate_left
  · intro w'
    go_simp
    with_reducible rfl
  rotate_left
  · simp only [Act.put, List.setIfInBounds_toArray, List.set_cons_zero, List.set_cons_succ, i64_w, i32_w]
    rfl
  refine pure_ (i := 10) (N := some 31) (v := ?_) (a' := ?_) #[true, true, true, true, true, true, true, true, true, true, true, true, true, true, false] rfl rfl (any_of HT_.out (by kernel_rfl)) (fun _ _ _ h => h) (Or.inl ⟨by rfl, ?_⟩) ?_ ?_
  rotate_left
  · intro w'
    go_simp
    with_reducible rfl
  rotate_left
  · simp only [Act.put, List.setIfInBounds_toArray, List.set_cons_zero, List.set_cons_succ, i64_w, i32_w]
    rfl
  refine pure_ (i := 14) (N := some 5) (v := ?_) (a' := ?_) #[true, true, true, true, true, true, true, true, true, true, true, true, true, true, true] rfl rfl (any_of HT_.out (by kernel_rfl)) (fun _ _ _ h => h) (Or.inl ⟨by rfl, ?_⟩) ?_ ?_
  rotate_left
  · intro w'
    go_simp
    with_reducible rfl
  rotate_left
  · simp only [Act.put, List.setIfInBounds_toArray, List.set_cons_zero, List.set_cons_succ, i64_w, i32_w]
    rfl
  refine done_ (done_of HT_.out (by kernel_rfl)) ?_
  try go_wp2
  refine bodyPost_ret (results_list (rs := [.tmp 2, .tmp 3, .tmp 4, .tmp 5]) rfl (by simp) (.tmp (.tmp (.tmp (.tmp .nil))))) rfl ?_
  exact ⟨by first | rfl | (simp [errW_none, errW_some] <;> rfl) | (simp [*, errW_none, errW_some] <;> rfl), by repeat (first | (with_reducible first | exact HB.out | apply below_alloc | apply pw_below_drewN | apply below_drew1 | refine below_set ?_ GE133.out) | exact HB.out)⟩
def catamaranref07_OfPage.f (a0_0 : Int) (a0_1 : Int) (a0_2 : Int) (a0_3 : Int) (a0_4 : Int) (a0_5 : Int) (a1 : Int) (a2 : Int) : Option (Int) := (catamaranref07_first.f a0_0 a0_1 a0_2 a0_3 a0_4 a0_5).bind fun bt136 => ((catamaranref07_Many.f a0_0 a0_1 a0_2 a0_3 a0_4 a0_5).bind fun t140 => (some (wrap64 ((wrap64 (bt136.2.1 + (wrap64 (a1 * t140)))) + a2))))
set_option maxHeartbeats 8000000 in
set_option maxRecDepth 100000 in
theorem catamaranref07_OfPage.calls (a0_0 : Int) (a0_1 : Int) (a0_2 : Int) (a0_3 : Int) (a0_4 : Int) (a0_5 : Int) (a1 : Int) (a2 : Int) (r : Int) (w : World) (h : catamaranref07_OfPage.f a0_0 a0_1 a0_2 a0_3 a0_4 a0_5 a1 a2 = some r) :
    Calls Try.prog 81 #[.agg #[.int .i64 a0_0, .int .i64 a0_1, .int .i64 a0_2, .int .i64 a0_3, .int .i64 a0_4, .int .i64 a0_5], .int .i64 a1, .int .i64 a2] w fun e w' => e = .returned (.int .i64 r) ∧ Below w.heap.size w w' := by
  have hu23 := Try.underlying23
  have HB := Aside0.mk (Below.refl w.heap.size w)
  have H : ((catamaranref07_first.f a0_0 a0_1 a0_2 a0_3 a0_4 a0_5).bind fun bt136 => ((catamaranref07_Many.f a0_0 a0_1 a0_2 a0_3 a0_4 a0_5).bind fun t140 => (some (wrap64 ((wrap64 (bt136.2.1 + (wrap64 (a1 * t140)))) + a2))))) = some r := h
  clear h
  replace H := Option.bind_eq_some_iff.mp H
  obtain ⟨⟨t136, t137, t138, t139⟩, A40, H⟩ := H
  replace H : ((catamaranref07_Many.f a0_0 a0_1 a0_2 a0_3 a0_4 a0_5).bind fun t140 => (some (wrap64 ((wrap64 (t137 + (wrap64 (a1 * t140)))) + a2)))) = some r := H
  have A4 := Aside0.mk A40
  clear A40
  replace H := Option.bind_eq_some_iff.mp H
  obtain ⟨t140, A50, H⟩ := H
  replace H : (some (wrap64 ((wrap64 (t137 + (wrap64 (a1 * t140)))) + a2))) = some r := H
  have A5 := Aside0.mk A50
  clear A50
  obtain rfl := Option.some.inj H
  go_enter Try.func81, Try.ntmps81
  go_wp2_with (first | ((with_reducible refine gate_dst (N := 3) rfl ?_); refine box_event ?hg (N := 3) ?hd (cs := #[.int .i64 a0_0, .int .i64 a0_1, .int .i64 a0_2, .int .i64 a0_3, .int .i64 a0_4, .int .i64 a0_5]) (t := 23) ?hr ?_; (case hd => rfl); (case hg => rfl); (case hr => first | (go_simp; done) | (go_simp; rfl)); intro gb135 hg w6 hbox hb; have n0_ := Aside0.mk (below_step (by repeat (first | (with_reducible first | exact HB.out | apply below_alloc | apply pw_below_drewN | apply below_drew1) | exact HB.out)) hb); have n1_ := Aside0.mk (hbox); have n2_ := Aside0.mk ((by rw [hg]; exact (below_size (by repeat (first | (with_reducible first | exact HB.out | apply below_alloc | apply pw_below_drewN | apply below_drew1) | exact HB.out))) : w.heap.size ≤ gb135)); have n3_ := Aside0.mk ((by rw [hg]; exact (below_size (by repeat (first | (with_reducible first | exact HB.out | apply below_alloc | apply pw_below_drewN | apply below_drew1) | exact HB.out))) : w.heap.size ≤ gb135)); clear HB; have HB := n0_; have BK135 := n1_; have GW135 := n2_; have GE135 := n3_; clear n0_ n1_ n2_ n3_; clear hb hbox hg; have hcz7_0 : w6.cell? ⟨gb135, 0, none⟩ = some (.int .i64 a0_0) := (blk_cell BK135.out 0).trans rfl; have hcz7_1 : w6.cell? ⟨gb135, 1, none⟩ = some (.int .i64 a0_1) := (blk_cell BK135.out 1).trans rfl; have hcz7_2 : w6.cell? ⟨gb135, 2, none⟩ = some (.int .i64 a0_2) := (blk_cell BK135.out 2).trans rfl; have hcz7_3 : w6.cell? ⟨gb135, 3, none⟩ = some (.int .i64 a0_3) := (blk_cell BK135.out 3).trans rfl; have hcz7_4 : w6.cell? ⟨gb135, 4, none⟩ = some (.int .i64 a0_4) := (blk_cell BK135.out 4).trans rfl; have hcz7_5 : w6.cell? ⟨gb135, 5, none⟩ = some (.int .i64 a0_5) := (blk_cell BK135.out 5).trans rfl; have hfz7_0 := blk_frozen BK135.out 0; have hfz7_1 := blk_frozen BK135.out 1; have hfz7_2 := blk_frozen BK135.out 2; have hfz7_3 := blk_frozen BK135.out 3; have hfz7_4 := blk_frozen BK135.out 4; have hfz7_5 := blk_frozen BK135.out 5) | ((with_reducible refine gate_callee (f := 147) rfl ?_); refine goesL_ (some 13) rfl rfl Try.func147 (by kernel_rfl) rfl #[.agg #[.int .i64 a0_0, .int .i64 a0_1, .int .i64 a0_2, .int .i64 a0_3, .int .i64 a0_4, .int .i64 a0_5]] rfl (by (try simp only [List.map_toArray, List.map_cons, List.map_nil]); first | done | rfl | (simp only [List.length_drop, List.length_take]; rfl)) ?_; (with_reducible refine (catamaranref07_first.calls a0_0 a0_1 a0_2 a0_3 a0_4 a0_5 t136 t137 t138 t139 _ A4.out).mono ?_); rintro e w8 ⟨rfl, hb⟩; refine ⟨_, rfl, ?_⟩; have n0_ := Aside0.mk (blk_below (g := gb135) (o := .cells #[.int .i64 a0_0, .int .i64 a0_1, .int .i64 a0_2, .int .i64 a0_3, .int .i64 a0_4, .int .i64 a0_5] 23 (0, 0)) (by (with_reducible repeat (first | refine blk_drewN ?_ _ | refine blk_drew ?_ | refine blk_alloc ?_ _)); exact BK135.out) hb); have n1_ := Aside0.mk (below_step (by repeat (first | (with_reducible first | exact HB.out | apply below_alloc | apply pw_below_drewN | apply below_drew1 | refine below_set ?_ GE135.out) | exact HB.out)) hb); clear BK135; clear HB; have BK135 := n0_; have HB := n1_; clear n0_ n1_; (try clear hb); (try clear hb2); (try clear hk); (try clear hi); have hcz9_0 : w8.cell? ⟨gb135, 0, none⟩ = some (.int .i64 a0_0) := (blk_cell BK135.out 0).trans rfl; have hcz9_1 : w8.cell? ⟨gb135, 1, none⟩ = some (.int .i64 a0_1) := (blk_cell BK135.out 1).trans rfl; have hcz9_2 : w8.cell? ⟨gb135, 2, none⟩ = some (.int .i64 a0_2) := (blk_cell BK135.out 2).trans rfl; have hcz9_3 : w8.cell? ⟨gb135, 3, none⟩ = some (.int .i64 a0_3) := (blk_cell BK135.out 3).trans rfl; have hcz9_4 : w8.cell? ⟨gb135, 4, none⟩ = some (.int .i64 a0_4) := (blk_cell BK135.out 4).trans rfl; have hcz9_5 : w8.cell? ⟨gb135, 5, none⟩ = some (.int .i64 a0_5) := (blk_cell BK135.out 5).trans rfl; have hfz9_0 := blk_frozen BK135.out 0; have hfz9_1 := blk_frozen BK135.out 1; have hfz9_2 := blk_frozen BK135.out 2; have hfz9_3 := blk_frozen BK135.out 3; have hfz9_4 := blk_frozen BK135.out 4; have hfz9_5 := blk_frozen BK135.out 5) | ((with_reducible refine gate_callee (f := 145) rfl ?_); refine goesL_ (some 21) rfl rfl Try.func145 (by kernel_rfl) rfl #[.agg #[.int .i64 a0_0, .int .i64 a0_1, .int .i64 a0_2, .int .i64 a0_3, .int .i64 a0_4, .int .i64 a0_5]] rfl (by (try simp only [List.map_toArray, List.map_cons, List.map_nil]); first | done | rfl | (simp only [List.length_drop, List.length_take]; rfl)) ?_; (with_reducible refine (catamaranref07_Many.calls a0_0 a0_1 a0_2 a0_3 a0_4 a0_5 t140 _ A5.out).mono ?_); rintro e w10 ⟨rfl, hb⟩; refine ⟨_, rfl, ?_⟩; have n0_ := Aside0.mk (blk_below (g := gb135) (o := .cells #[.int .i64 a0_0, .int .i64 a0_1, .int .i64 a0_2, .int .i64 a0_3, .int .i64 a0_4, .int .i64 a0_5] 23 (0, 0)) (by (with_reducible repeat (first | refine blk_drewN ?_ _ | refine blk_drew ?_ | refine blk_alloc ?_ _)); exact BK135.out) hb); have n1_ := Aside0.mk (below_step (by repeat (first | (with_reducible first | exact HB.out | apply below_alloc | apply pw_below_drewN | apply below_drew1 | refine below_set ?_ GE135.out) | exact HB.out)) hb); clear BK135; clear HB; have BK135 := n0_; have HB := n1_; clear n0_ n1_; (try clear hb); (try clear hb2); (try clear hk); (try clear hi)))
  go_ret
  exact ⟨by first | rfl | (simp [errW_none, errW_some] <;> rfl) | (simp [*, errW_none, errW_some] <;> rfl), by repeat (first | (with_reducible first | exact HB.out | apply below_alloc | apply pw_below_drewN | apply below_drew1 | refine below_set ?_ GE135.out) | exact HB.out)⟩
def catamaranref07_in.f (a0 : Int) (a1 : Int) (a2 : Int) : Option (Bool) := if a0 ≥ a1 then (some (decide (a0 ≤ a2))) else (some false)
set_option maxHeartbeats 8000000 in
set_option maxRecDepth 100000 in
theorem catamaranref07_in.calls (a0 : Int) (a1 : Int) (a2 : Int) (r : Bool) (w : World) (h : catamaranref07_in.f a0 a1 a2 = some r) :
    Calls Try.prog 144 #[.int .i64 a0, .int .i64 a1, .int .i64 a2] w fun e w' => e = .returned (.bool r) ∧ Drawn0 w w' := by
  have H : (if a0 ≥ a1 then (some (decide (a0 ≤ a2))) else (some false)) = some r := h
  clear h
  by_cases c4 : a0 ≥ a1
  · rw [if_pos c4] at H
    have c4b0 : decide (a1 ≤ a0) = true := decide_eq_true c4
    clear c4
    obtain rfl := Option.some.inj H
    go_enter Try.func144, Try.ntmps144
    go_wp2
    go_ret
    exact ⟨by first | rfl | (simp; done) | (simp [*]; done), by repeat (first | exact Drawn0.refl _ | apply Drawn0.step)⟩
  · rw [if_neg c4] at H
    have c4b0 : decide (a1 ≤ a0) = false := decide_eq_false c4
    clear c4
    obtain rfl := Option.some.inj H
    go_enter Try.func144, Try.ntmps144
    go_wp2
    go_ret
    exact ⟨by first | rfl | (simp; done) | (simp [*]; done), by repeat (first | exact Drawn0.refl _ | apply Drawn0.step)⟩
def catamaranref07_May.j0 : Nat → Bool → Int → Int → Int → Int → Int → Int → Option (Bool)
  | 0, _, _, _, _, _, _, _ => none
  | k + 1, x29, x142000, x142001, x142002, x142003, x142004, x142005 => if x29 = true then (some false) else ((catamaranref07_in.f x142004 1 4).bind fun t146 => (if t146 = true then ((catamaranref07_in.f x142005 4 64).bind fun t147 => (some t147)) else (some false)))
def catamaranref07_May.f (k : Nat) (a0_0 : Int) (a0_1 : Int) (a0_2 : Int) (a0_3 : Int) (a0_4 : Int) (a0_5 : Int) : Option (Bool) := (catamaranref07_in.f a0_0 1 3).bind fun t142 => (if t142 = true then ((catamaranref07_in.f a0_1 1 16).bind fun t143 => (if t143 = true then ((catamaranref07_in.f a0_2 (wrap64 (a0_0 + 2)) 32).bind fun t144 => (if t144 = true then ((catamaranref07_in.f a0_3 1 a0_0).bind fun t145 => (catamaranref07_May.j0 k (!t145) a0_0 a0_1 a0_2 a0_3 a0_4 a0_5)) else (catamaranref07_May.j0 k true a0_0 a0_1 a0_2 a0_3 a0_4 a0_5))) else (catamaranref07_May.j0 k true a0_0 a0_1 a0_2 a0_3 a0_4 a0_5))) else (catamaranref07_May.j0 k true a0_0 a0_1 a0_2 a0_3 a0_4 a0_5))
set_option maxHeartbeats 8000000 in
set_option maxRecDepth 100000 in
theorem catamaranref07_May.calls (k : Nat) (a0_0 : Int) (a0_1 : Int) (a0_2 : Int) (a0_3 : Int) (a0_4 : Int) (a0_5 : Int) (r : Bool) (w : World) (h : catamaranref07_May.f k a0_0 a0_1 a0_2 a0_3 a0_4 a0_5 = some r) :
    Calls Try.prog 143 #[.agg #[.int .i64 a0_0, .int .i64 a0_1, .int .i64 a0_2, .int .i64 a0_3, .int .i64 a0_4, .int .i64 a0_5]] w fun e w' => e = .returned (.bool r) ∧ Below w.heap.size w w' := by
  have hu23 := Try.underlying23
  have HB := Aside0.mk (Below.refl w.heap.size w)
  have H : ((catamaranref07_in.f a0_0 1 3).bind fun t142 => (if t142 = true then ((catamaranref07_in.f a0_1 1 16).bind fun t143 => (if t143 = true then ((catamaranref07_in.f a0_2 (wrap64 (a0_0 + 2)) 32).bind fun t144 => (if t144 = true then ((catamaranref07_in.f a0_3 1 a0_0).bind fun t145 => (catamaranref07_May.j0 k (!t145) a0_0 a0_1 a0_2 a0_3 a0_4 a0_5)) else (catamaranref07_May.j0 k true a0_0 a0_1 a0_2 a0_3 a0_4 a0_5))) else (catamaranref07_May.j0 k true a0_0 a0_1 a0_2 a0_3 a0_4 a0_5))) else (catamaranref07_May.j0 k true a0_0 a0_1 a0_2 a0_3 a0_4 a0_5))) = some r := h
  clear h
  have HC2 := Aside0.mk H
  clear H
  go_enter Try.func143, Try.ntmps143
  go_upto_region 1 with (first | ((with_reducible refine gate_dst (N := 1) rfl ?_); refine box_event ?hg (N := 1) ?hd (cs := #[.int .i64 a0_0, .int .i64 a0_1, .int .i64 a0_2, .int .i64 a0_3, .int .i64 a0_4, .int .i64 a0_5]) (t := 23) ?hr ?_; (case hd => rfl); (case hg => rfl); (case hr => first | (go_simp; done) | (go_simp; rfl)); intro gb141 hg w3 hbox hb; have n0_ := Aside0.mk (below_step (by repeat (first | (with_reducible first | exact HB.out | apply below_alloc | apply pw_below_drewN | apply below_drew1) | exact HB.out)) hb); have n1_ := Aside0.mk (hbox); have n2_ := Aside0.mk ((by rw [hg]; exact (below_size (by repeat (first | (with_reducible first | exact HB.out | apply below_alloc | apply pw_below_drewN | apply below_drew1) | exact HB.out))) : w.heap.size ≤ gb141)); have n3_ := Aside0.mk ((by rw [hg]; exact (below_size (by repeat (first | (with_reducible first | exact HB.out | apply below_alloc | apply pw_below_drewN | apply below_drew1) | exact HB.out))) : w.heap.size ≤ gb141)); clear HB; have HB := n0_; have BK141 := n1_; have GW141 := n2_; have GE141 := n3_; clear n0_ n1_ n2_ n3_; clear hb hbox hg))
  (try simp only [Act.put, List.setIfInBounds_toArray, List.set_cons_zero, List.set_cons_succ])
  go_cut [29] (fun v29 wc => ∃ (kq : Nat) (x29_1 : Bool), v29 = .bool x29_1 ∧ Aside0 (catamaranref07_May.j0 kq x29_1 a0_0 a0_1 a0_2 a0_3 a0_4 a0_5 = some r) ∧ Aside0 (kq ≤ k) ∧ Aside0 (wc.heap[gb141]? = some (.cells #[.int .i64 a0_0, .int .i64 a0_1, .int .i64 a0_2, .int .i64 a0_3, .int .i64 a0_4, .int .i64 a0_5] 23 (0, 0))) ∧ Aside0 (Below w.heap.size w wc))
  case first =>
    have H := HC2.out
    clear HC2
    replace H := Option.bind_eq_some_iff.mp H
    obtain ⟨t142, A40, H⟩ := H
    replace H : (if t142 = true then ((catamaranref07_in.f a0_1 1 16).bind fun t143 => (if t143 = true then ((catamaranref07_in.f a0_2 (wrap64 (a0_0 + 2)) 32).bind fun t144 => (if t144 = true then ((catamaranref07_in.f a0_3 1 a0_0).bind fun t145 => (catamaranref07_May.j0 k (!t145) a0_0 a0_1 a0_2 a0_3 a0_4 a0_5)) else (catamaranref07_May.j0 k true a0_0 a0_1 a0_2 a0_3 a0_4 a0_5))) else (catamaranref07_May.j0 k true a0_0 a0_1 a0_2 a0_3 a0_4 a0_5))) else (catamaranref07_May.j0 k true a0_0 a0_1 a0_2 a0_3 a0_4 a0_5)) = some r := H
    have A4 := Aside0.mk A40
    clear A40
    by_cases c5 : t142 = true
    · subst c5
      have H1 : ((catamaranref07_in.f a0_1 1 16).bind fun t143 => (if t143 = true then ((catamaranref07_in.f a0_2 (wrap64 (a0_0 + 2)) 32).bind fun t144 => (if t144 = true then ((catamaranref07_in.f a0_3 1 a0_0).bind fun t145 => (catamaranref07_May.j0 k (!t145) a0_0 a0_1 a0_2 a0_3 a0_4 a0_5)) else (catamaranref07_May.j0 k true a0_0 a0_1 a0_2 a0_3 a0_4 a0_5))) else (catamaranref07_May.j0 k true a0_0 a0_1 a0_2 a0_3 a0_4 a0_5))) = some r := by rw [if_pos rfl] at H; exact H
      clear H
      have H := H1
      clear H1
      replace H := Option.bind_eq_some_iff.mp H
      obtain ⟨t143, A60, H⟩ := H
      replace H : (if t143 = true then ((catamaranref07_in.f a0_2 (wrap64 (a0_0 + 2)) 32).bind fun t144 => (if t144 = true then ((catamaranref07_in.f a0_3 1 a0_0).bind fun t145 => (catamaranref07_May.j0 k (!t145) a0_0 a0_1 a0_2 a0_3 a0_4 a0_5)) else (catamaranref07_May.j0 k true a0_0 a0_1 a0_2 a0_3 a0_4 a0_5))) else (catamaranref07_May.j0 k true a0_0 a0_1 a0_2 a0_3 a0_4 a0_5)) = some r := H
      have A6 := Aside0.mk A60
      clear A60
      by_cases c7 : t143 = true
      · subst c7
        have H1 : ((catamaranref07_in.f a0_2 (wrap64 (a0_0 + 2)) 32).bind fun t144 => (if t144 = true then ((catamaranref07_in.f a0_3 1 a0_0).bind fun t145 => (catamaranref07_May.j0 k (!t145) a0_0 a0_1 a0_2 a0_3 a0_4 a0_5)) else (catamaranref07_May.j0 k true a0_0 a0_1 a0_2 a0_3 a0_4 a0_5))) = some r := by rw [if_pos rfl] at H; exact H
        clear H
        have H := H1
        clear H1
        replace H := Option.bind_eq_some_iff.mp H
        obtain ⟨t144, A80, H⟩ := H
        replace H : (if t144 = true then ((catamaranref07_in.f a0_3 1 a0_0).bind fun t145 => (catamaranref07_May.j0 k (!t145) a0_0 a0_1 a0_2 a0_3 a0_4 a0_5)) else (catamaranref07_May.j0 k true a0_0 a0_1 a0_2 a0_3 a0_4 a0_5)) = some r := H
        have A8 := Aside0.mk A80
        clear A80
        by_cases c9 : t144 = true
        · subst c9
          have H1 : ((catamaranref07_in.f a0_3 1 a0_0).bind fun t145 => (catamaranref07_May.j0 k (!t145) a0_0 a0_1 a0_2 a0_3 a0_4 a0_5)) = some r := by rw [if_pos rfl] at H; exact H
          clear H
          have H := H1
          clear H1
          replace H := Option.bind_eq_some_iff.mp H
          obtain ⟨t145, A100, H⟩ := H
          replace H : (catamaranref07_May.j0 k (!t145) a0_0 a0_1 a0_2 a0_3 a0_4 a0_5) = some r := H
          have A10 := Aside0.mk A100
          clear A100
          have H' := Aside0.mk H
          clear H
          have hcz11_0 : w3.cell? ⟨gb141, 0, none⟩ = some (.int .i64 a0_0) := (blk_cell BK141.out 0).trans rfl
          have hcz11_1 : w3.cell? ⟨gb141, 1, none⟩ = some (.int .i64 a0_1) := (blk_cell BK141.out 1).trans rfl
          have hcz11_2 : w3.cell? ⟨gb141, 2, none⟩ = some (.int .i64 a0_2) := (blk_cell BK141.out 2).trans rfl
          have hcz11_3 : w3.cell? ⟨gb141, 3, none⟩ = some (.int .i64 a0_3) := (blk_cell BK141.out 3).trans rfl
          have hcz11_4 : w3.cell? ⟨gb141, 4, none⟩ = some (.int .i64 a0_4) := (blk_cell BK141.out 4).trans rfl
          have hcz11_5 : w3.cell? ⟨gb141, 5, none⟩ = some (.int .i64 a0_5) := (blk_cell BK141.out 5).trans rfl
          have hfz11_0 := blk_frozen BK141.out 0
          have hfz11_1 := blk_frozen BK141.out 1
          have hfz11_2 := blk_frozen BK141.out 2
          have hfz11_3 := blk_frozen BK141.out 3
          have hfz11_4 := blk_frozen BK141.out 4
          have hfz11_5 := blk_frozen BK141.out 5
          go_wp2_with (first | ((with_reducible refine gate_callee (f := 144) rfl ?_); refine goesL_ (some 5) rfl rfl Try.func144 (by kernel_rfl) rfl #[.int .i64 a0_0, .int .i64 1, .int .i64 3] rfl (by (try simp only [List.map_toArray, List.map_cons, List.map_nil]); first | done | rfl | (simp only [List.length_drop, List.length_take]; rfl)) ?_; (with_reducible refine (catamaranref07_in.calls a0_0 1 3 true _ A4.out).mono ?_); rintro e w' ⟨rfl, ⟨nd, rfl⟩⟩; refine ⟨_, rfl, ?_⟩) | (go_at_call 144; (with_reducible refine (catamaranref07_in.calls a0_1 1 16 true _ A6.out).mono ?_); rintro e w' ⟨rfl, ⟨nd, rfl⟩⟩) | (go_at_call 144; (with_reducible refine (catamaranref07_in.calls a0_2 (wrap64 (a0_0 + 2)) 32 true _ A8.out).mono ?_); rintro e w' ⟨rfl, ⟨nd, rfl⟩⟩) | (go_at_call 144; (with_reducible refine (catamaranref07_in.calls a0_3 1 a0_0 t145 _ A10.out).mono ?_); rintro e w' ⟨rfl, ⟨nd, rfl⟩⟩))
          go_meet
          case rel => exact ⟨_, (!t145), (by first | rfl | (simp; done) | (simp [*]; done)), H', ⟨by first | omega | exact Nat.le_refl _⟩, ⟨by (with_reducible repeat (first | refine blk_drewN ?_ _ | refine blk_drew ?_ | refine blk_alloc ?_ _)); exact BK141.out⟩, ⟨by repeat (first | (with_reducible first | exact HB.out | apply below_alloc | apply pw_below_drewN | apply below_drew1 | refine below_set ?_ GE141.out) | exact HB.out)⟩⟩
        · replace c9 := Bool.eq_false_iff.mpr c9
          subst c9
          have H1 : (catamaranref07_May.j0 k true a0_0 a0_1 a0_2 a0_3 a0_4 a0_5) = some r := by rw [if_neg (show ¬ (false = true) by decide)] at H; exact H
          clear H
          have H := H1
          clear H1
          have H' := Aside0.mk H
          clear H
          have hcz12_0 : w3.cell? ⟨gb141, 0, none⟩ = some (.int .i64 a0_0) := (blk_cell BK141.out 0).trans rfl
          have hcz12_1 : w3.cell? ⟨gb141, 1, none⟩ = some (.int .i64 a0_1) := (blk_cell BK141.out 1).trans rfl
          have hcz12_2 : w3.cell? ⟨gb141, 2, none⟩ = some (.int .i64 a0_2) := (blk_cell BK141.out 2).trans rfl
          have hcz12_3 : w3.cell? ⟨gb141, 3, none⟩ = some (.int .i64 a0_3) := (blk_cell BK141.out 3).trans rfl
          have hcz12_4 : w3.cell? ⟨gb141, 4, none⟩ = some (.int .i64 a0_4) := (blk_cell BK141.out 4).trans rfl
          have hcz12_5 : w3.cell? ⟨gb141, 5, none⟩ = some (.int .i64 a0_5) := (blk_cell BK141.out 5).trans rfl
          have hfz12_0 := blk_frozen BK141.out 0
          have hfz12_1 := blk_frozen BK141.out 1
          have hfz12_2 := blk_frozen BK141.out 2
          have hfz12_3 := blk_frozen BK141.out 3
          have hfz12_4 := blk_frozen BK141.out 4
          have hfz12_5 := blk_frozen BK141.out 5
          go_wp2_with (first | ((with_reducible refine gate_callee (f := 144) rfl ?_); refine goesL_ (some 5) rfl rfl Try.func144 (by kernel_rfl) rfl #[.int .i64 a0_0, .int .i64 1, .int .i64 3] rfl (by (try simp only [List.map_toArray, List.map_cons, List.map_nil]); first | done | rfl | (simp only [List.length_drop, List.length_take]; rfl)) ?_; (with_reducible refine (catamaranref07_in.calls a0_0 1 3 true _ A4.out).mono ?_); rintro e w' ⟨rfl, ⟨nd, rfl⟩⟩; refine ⟨_, rfl, ?_⟩) | (go_at_call 144; (with_reducible refine (catamaranref07_in.calls a0_1 1 16 true _ A6.out).mono ?_); rintro e w' ⟨rfl, ⟨nd, rfl⟩⟩) | (go_at_call 144; (with_reducible refine (catamaranref07_in.calls a0_2 (wrap64 (a0_0 + 2)) 32 false _ A8.out).mono ?_); rintro e w' ⟨rfl, ⟨nd, rfl⟩⟩))
          go_meet
          case rel => exact ⟨_, (true), (by first | rfl | (simp; done) | (simp [*]; done)), H', ⟨by first | omega | exact Nat.le_refl _⟩, ⟨by (with_reducible repeat (first | refine blk_drewN ?_ _ | refine blk_drew ?_ | refine blk_alloc ?_ _)); exact BK141.out⟩, ⟨by repeat (first | (with_reducible first | exact HB.out | apply below_alloc | apply pw_below_drewN | apply below_drew1 | refine below_set ?_ GE141.out) | exact HB.out)⟩⟩
      · replace c7 := Bool.eq_false_iff.mpr c7
        subst c7
        have H1 : (catamaranref07_May.j0 k true a0_0 a0_1 a0_2 a0_3 a0_4 a0_5) = some r := by rw [if_neg (show ¬ (false = true) by decide)] at H; exact H
        clear H
        have H := H1
        clear H1
        have H' := Aside0.mk H
        clear H
        have hcz13_0 : w3.cell? ⟨gb141, 0, none⟩ = some (.int .i64 a0_0) := (blk_cell BK141.out 0).trans rfl
        have hcz13_1 : w3.cell? ⟨gb141, 1, none⟩ = some (.int .i64 a0_1) := (blk_cell BK141.out 1).trans rfl
        have hcz13_2 : w3.cell? ⟨gb141, 2, none⟩ = some (.int .i64 a0_2) := (blk_cell BK141.out 2).trans rfl
        have hcz13_3 : w3.cell? ⟨gb141, 3, none⟩ = some (.int .i64 a0_3) := (blk_cell BK141.out 3).trans rfl
        have hcz13_4 : w3.cell? ⟨gb141, 4, none⟩ = some (.int .i64 a0_4) := (blk_cell BK141.out 4).trans rfl
        have hcz13_5 : w3.cell? ⟨gb141, 5, none⟩ = some (.int .i64 a0_5) := (blk_cell BK141.out 5).trans rfl
        have hfz13_0 := blk_frozen BK141.out 0
        have hfz13_1 := blk_frozen BK141.out 1
        have hfz13_2 := blk_frozen BK141.out 2
        have hfz13_3 := blk_frozen BK141.out 3
        have hfz13_4 := blk_frozen BK141.out 4
        have hfz13_5 := blk_frozen BK141.out 5
        go_wp2_with (first | ((with_reducible refine gate_callee (f := 144) rfl ?_); refine goesL_ (some 5) rfl rfl Try.func144 (by kernel_rfl) rfl #[.int .i64 a0_0, .int .i64 1, .int .i64 3] rfl (by (try simp only [List.map_toArray, List.map_cons, List.map_nil]); first | done | rfl | (simp only [List.length_drop, List.length_take]; rfl)) ?_; (with_reducible refine (catamaranref07_in.calls a0_0 1 3 true _ A4.out).mono ?_); rintro e w' ⟨rfl, ⟨nd, rfl⟩⟩; refine ⟨_, rfl, ?_⟩) | (go_at_call 144; (with_reducible refine (catamaranref07_in.calls a0_1 1 16 false _ A6.out).mono ?_); rintro e w' ⟨rfl, ⟨nd, rfl⟩⟩))
        go_meet
        case rel => exact ⟨_, (true), (by first | rfl | (simp; done) | (simp [*]; done)), H', ⟨by first | omega | exact Nat.le_refl _⟩, ⟨by (with_reducible repeat (first | refine blk_drewN ?_ _ | refine blk_drew ?_ | refine blk_alloc ?_ _)); exact BK141.out⟩, ⟨by repeat (first | (with_reducible first | exact HB.out | apply below_alloc | apply pw_below_drewN | apply below_drew1 | refine below_set ?_ GE141.out) | exact HB.out)⟩⟩
    · replace c5 := Bool.eq_false_iff.mpr c5
      subst c5
      have H1 : (catamaranref07_May.j0 k true a0_0 a0_1 a0_2 a0_3 a0_4 a0_5) = some r := by rw [if_neg (show ¬ (false = true) by decide)] at H; exact H
      clear H
      have H := H1
      clear H1
      have H' := Aside0.mk H
      clear H
      have hcz14_0 : w3.cell? ⟨gb141, 0, none⟩ = some (.int .i64 a0_0) := (blk_cell BK141.out 0).trans rfl
      have hcz14_1 : w3.cell? ⟨gb141, 1, none⟩ = some (.int .i64 a0_1) := (blk_cell BK141.out 1).trans rfl
      have hcz14_2 : w3.cell? ⟨gb141, 2, none⟩ = some (.int .i64 a0_2) := (blk_cell BK141.out 2).trans rfl
      have hcz14_3 : w3.cell? ⟨gb141, 3, none⟩ = some (.int .i64 a0_3) := (blk_cell BK141.out 3).trans rfl
      have hcz14_4 : w3.cell? ⟨gb141, 4, none⟩ = some (.int .i64 a0_4) := (blk_cell BK141.out 4).trans rfl
      have hcz14_5 : w3.cell? ⟨gb141, 5, none⟩ = some (.int .i64 a0_5) := (blk_cell BK141.out 5).trans rfl
      have hfz14_0 := blk_frozen BK141.out 0
      have hfz14_1 := blk_frozen BK141.out 1
      have hfz14_2 := blk_frozen BK141.out 2
      have hfz14_3 := blk_frozen BK141.out 3
      have hfz14_4 := blk_frozen BK141.out 4
      have hfz14_5 := blk_frozen BK141.out 5
      go_wp2_with (first | ((with_reducible refine gate_callee (f := 144) rfl ?_); refine goesL_ (some 5) rfl rfl Try.func144 (by kernel_rfl) rfl #[.int .i64 a0_0, .int .i64 1, .int .i64 3] rfl (by (try simp only [List.map_toArray, List.map_cons, List.map_nil]); first | done | rfl | (simp only [List.length_drop, List.length_take]; rfl)) ?_; (with_reducible refine (catamaranref07_in.calls a0_0 1 3 false _ A4.out).mono ?_); rintro e w' ⟨rfl, ⟨nd, rfl⟩⟩; refine ⟨_, rfl, ?_⟩))
      go_meet
      case rel => exact ⟨_, (true), (by first | rfl | (simp; done) | (simp [*]; done)), H', ⟨by first | omega | exact Nat.le_refl _⟩, ⟨by (with_reducible repeat (first | refine blk_drewN ?_ _ | refine blk_drew ?_ | refine blk_alloc ?_ _)); exact BK141.out⟩, ⟨by repeat (first | (with_reducible first | exact HB.out | apply below_alloc | apply pw_below_drewN | apply below_drew1 | refine below_set ?_ GE141.out) | exact HB.out)⟩⟩
  case rest =>
    clear HC2
    try clear c1
    try clear p2
    try clear c5
    try clear p6
    try clear c7
    try clear c9
    try clear c14
    try clear hcz11_0
    try clear hcz11_1
    try clear hcz11_2
    try clear hcz11_3
    try clear hcz11_4
    try clear hcz11_5
    try clear hcz12_0
    try clear hcz12_1
    try clear hcz12_2
    try clear hcz12_3
    try clear hcz12_4
    try clear hcz12_5
    try clear hcz13_0
    try clear hcz13_1
    try clear hcz13_2
    try clear hcz13_3
    try clear hcz13_4
    try clear hcz13_5
    try clear hcz14_0
    try clear hcz14_1
    try clear hcz14_2
    try clear hcz14_3
    try clear hcz14_4
    try clear hcz14_5
    try clear hfz11_0
    try clear hfz11_1
    try clear hfz11_2
    try clear hfz11_3
    try clear hfz11_4
    try clear hfz11_5
    try clear hfz12_0
    try clear hfz12_1
    try clear hfz12_2
    try clear hfz12_3
    try clear hfz12_4
    try clear hfz12_5
    try clear hfz13_0
    try clear hfz13_1
    try clear hfz13_2
    try clear hfz13_3
    try clear hfz13_4
    try clear hfz13_5
    try clear hfz14_0
    try clear hfz14_1
    try clear hfz14_2
    try clear hfz14_3
    try clear hfz14_4
    try clear hfz14_5
    obtain ⟨kq, x29_1, rfl, HA, HJ1, BK141, HB⟩ := hcut
    cases kq with
    | zero => exact absurd HA.out (by simp [catamaranref07_May.j0])
    | succ kj1 =>
      have H := HA.out
      clear HA
      simp only [catamaranref07_May.j0] at H
      by_cases c15 : x29_1 = true
      · subst c15
        have H1 : (some false) = some r := by rw [if_pos rfl] at H; exact H
        clear H
        have H := H1
        clear H1
        obtain rfl := Option.some.inj H
        go_wp2
        go_ret
        exact ⟨by first | rfl | (simp [errW_none, errW_some] <;> rfl) | (simp [*, errW_none, errW_some] <;> rfl), by repeat (first | (with_reducible first | exact HB.out | apply below_alloc | apply pw_below_drewN | apply below_drew1 | refine below_set ?_ GE141.out) | exact HB.out)⟩
      · replace c15 := Bool.eq_false_iff.mpr c15
        subst c15
        have H1 : ((catamaranref07_in.f a0_4 1 4).bind fun t146 => (if t146 = true then ((catamaranref07_in.f a0_5 4 64).bind fun t147 => (some t147)) else (some false))) = some r := by rw [if_neg (show ¬ (false = true) by decide)] at H; exact H
        clear H
        have H := H1
        clear H1
        replace H := Option.bind_eq_some_iff.mp H
        obtain ⟨t146, A160, H⟩ := H
        replace H : (if t146 = true then ((catamaranref07_in.f a0_5 4 64).bind fun t147 => (some t147)) else (some false)) = some r := H
        have A16 := Aside0.mk A160
        clear A160
        by_cases c17 : t146 = true
        · subst c17
          have H1 : ((catamaranref07_in.f a0_5 4 64).bind fun t147 => (some t147)) = some r := by rw [if_pos rfl] at H; exact H
          clear H
          have H := H1
          clear H1
          replace H := Option.bind_eq_some_iff.mp H
          obtain ⟨t147, A180, H⟩ := H
          replace H : (some t147) = some r := H
          have A18 := Aside0.mk A180
          clear A180
          obtain rfl := Option.some.inj H
          have hcz19_0 : wc.cell? ⟨gb141, 0, none⟩ = some (.int .i64 a0_0) := (blk_cell BK141.out 0).trans rfl
          have hcz19_1 : wc.cell? ⟨gb141, 1, none⟩ = some (.int .i64 a0_1) := (blk_cell BK141.out 1).trans rfl
          have hcz19_2 : wc.cell? ⟨gb141, 2, none⟩ = some (.int .i64 a0_2) := (blk_cell BK141.out 2).trans rfl
          have hcz19_3 : wc.cell? ⟨gb141, 3, none⟩ = some (.int .i64 a0_3) := (blk_cell BK141.out 3).trans rfl
          have hcz19_4 : wc.cell? ⟨gb141, 4, none⟩ = some (.int .i64 a0_4) := (blk_cell BK141.out 4).trans rfl
          have hcz19_5 : wc.cell? ⟨gb141, 5, none⟩ = some (.int .i64 a0_5) := (blk_cell BK141.out 5).trans rfl
          have hfz19_0 := blk_frozen BK141.out 0
          have hfz19_1 := blk_frozen BK141.out 1
          have hfz19_2 := blk_frozen BK141.out 2
          have hfz19_3 := blk_frozen BK141.out 3
          have hfz19_4 := blk_frozen BK141.out 4
          have hfz19_5 := blk_frozen BK141.out 5
          go_wp2_with (first | ((with_reducible refine gate_callee (f := 144) rfl ?_); refine goesL_ (some 32) rfl rfl Try.func144 (by kernel_rfl) rfl #[.int .i64 a0_4, .int .i64 1, .int .i64 4] rfl (by (try simp only [List.map_toArray, List.map_cons, List.map_nil]); first | done | rfl | (simp only [List.length_drop, List.length_take]; rfl)) ?_; (with_reducible refine (catamaranref07_in.calls a0_4 1 4 true _ A16.out).mono ?_); rintro e w' ⟨rfl, ⟨nd, rfl⟩⟩; refine ⟨_, rfl, ?_⟩) | (go_at_call 144; (with_reducible refine (catamaranref07_in.calls a0_5 4 64 t147 _ A18.out).mono ?_); rintro e w' ⟨rfl, ⟨nd, rfl⟩⟩))
          go_ret
          exact ⟨by first | rfl | (simp [errW_none, errW_some] <;> rfl) | (simp [*, errW_none, errW_some] <;> rfl), by repeat (first | (with_reducible first | exact HB.out | apply below_alloc | apply pw_below_drewN | apply below_drew1 | refine below_set ?_ GE141.out) | exact HB.out)⟩
        · replace c17 := Bool.eq_false_iff.mpr c17
          subst c17
          have H1 : (some false) = some r := by rw [if_neg (show ¬ (false = true) by decide)] at H; exact H
          clear H
          have H := H1
          clear H1
          obtain rfl := Option.some.inj H
          have hcz20_0 : wc.cell? ⟨gb141, 0, none⟩ = some (.int .i64 a0_0) := (blk_cell BK141.out 0).trans rfl
          have hcz20_1 : wc.cell? ⟨gb141, 1, none⟩ = some (.int .i64 a0_1) := (blk_cell BK141.out 1).trans rfl
          have hcz20_2 : wc.cell? ⟨gb141, 2, none⟩ = some (.int .i64 a0_2) := (blk_cell BK141.out 2).trans rfl
          have hcz20_3 : wc.cell? ⟨gb141, 3, none⟩ = some (.int .i64 a0_3) := (blk_cell BK141.out 3).trans rfl
          have hcz20_4 : wc.cell? ⟨gb141, 4, none⟩ = some (.int .i64 a0_4) := (blk_cell BK141.out 4).trans rfl
          have hcz20_5 : wc.cell? ⟨gb141, 5, none⟩ = some (.int .i64 a0_5) := (blk_cell BK141.out 5).trans rfl
          have hfz20_0 := blk_frozen BK141.out 0
          have hfz20_1 := blk_frozen BK141.out 1
          have hfz20_2 := blk_frozen BK141.out 2
          have hfz20_3 := blk_frozen BK141.out 3
          have hfz20_4 := blk_frozen BK141.out 4
          have hfz20_5 := blk_frozen BK141.out 5
          go_wp2_with (first | ((with_reducible refine gate_callee (f := 144) rfl ?_); refine goesL_ (some 32) rfl rfl Try.func144 (by kernel_rfl) rfl #[.int .i64 a0_4, .int .i64 1, .int .i64 4] rfl (by (try simp only [List.map_toArray, List.map_cons, List.map_nil]); first | done | rfl | (simp only [List.length_drop, List.length_take]; rfl)) ?_; (with_reducible refine (catamaranref07_in.calls a0_4 1 4 false _ A16.out).mono ?_); rintro e w' ⟨rfl, ⟨nd, rfl⟩⟩; refine ⟨_, rfl, ?_⟩))
          go_ret
          exact ⟨by first | rfl | (simp [errW_none, errW_some] <;> rfl) | (simp [*, errW_none, errW_some] <;> rfl), by repeat (first | (with_reducible first | exact HB.out | apply below_alloc | apply pw_below_drewN | apply below_drew1 | refine below_set ?_ GE141.out) | exact HB.out)⟩
end Go.Proofs.Ytpbnppeodoflcaa.PPg
end
section
namespace Go.Proofs.Ytpbnppeodoflcaa.PPg
open Go.Proofs.Ytpbnppeodoflcaa.E
open Go.RowKit Go.Proofs.YtpbnppeodoflcaaW.PrintWords Go.Proofs.YtpbnppeodoflcaaW.PrintLast Go.Proofs.YtpbnppeodoflcaaW.PrintMore
attribute [local go_sem] max2_int min2_int max_two min_two max_three min_three max_four min_four   -- for this text's walks alone
set_option linter.unusedVariables false
set_option linter.unusedSimpArgs false
def catamaranref13_Sector.f (a0 : Int) (a1 : Int) (a2 : Int) : Option (List Int) := (some (([1, (a0) % 256, (a1) % 256, a2] : List Int) : List Int)).bind fun y154 => (if y154.length + 28 < 140737488355328 then (some (y154 ++ List.replicate 28 0)) else (none))
set_option maxHeartbeats 8000000 in
set_option maxRecDepth 100000 in
theorem catamaranref13_Sector.calls (a0 : Int) (a1 : Int) (a2 : Int) (r : List Int) (w : World) (h : catamaranref13_Sector.f a0 a1 a2 = some r) :
    Calls Try.prog 80 #[.int .i64 a0, .int .i64 a1, .int .u8 a2] w fun e w' => ∃ v0_ : Value, e = .returned (v0_) ∧ Kd.R (Kd.int .u8) 5 w' w.heap.size (fun _ => True) v0_ r ∧ Below w.heap.size w w' := by
  have HB := Aside0.mk (Below.refl w.heap.size w)
  have H : ((some (([1, (a0) % 256, (a1) % 256, a2] : List Int) : List Int)).bind fun y154 => (if y154.length + 28 < 140737488355328 then (some (y154 ++ List.replicate 28 0)) else (none))) = some r := h
  clear h
  obtain ⟨y154, hy154⟩ : ∃ y_ : List Int, y_ = (([1, (a0) % 256, (a1) % 256, a2] : List Int)) := ⟨_, rfl⟩
  replace H : (if y154.length + 28 < 140737488355328 then (some (y154 ++ List.replicate 28 0)) else (none)) = some r := by first | (rw [hy154]; with_reducible exact H) | (have H2_ := (Option.bind_some _ _).symm.trans H; rw [hy154]; with_reducible exact H2_) | (have H2_ := (Option.bind_some _ _).symm.trans H; with_reducible exact H2_) | with_reducible exact H | (rw [hy154]; exact H) | exact H
  have Ny154 := Aside0.mk hy154
  clear hy154
  by_cases c4 : y154.length + 28 < 140737488355328
  · rw [if_pos c4] at H
    have LMc4 := Aside0.mk c4
    clear c4
    obtain ⟨y157, hy157⟩ : ∃ y_ : List Int, y_ = (y154 ++ List.replicate 28 0) := ⟨_, rfl⟩
    replace H : (some y157) = some r := by first | (rw [hy157]; with_reducible exact H) | (have H2_ := (Option.bind_some _ _).symm.trans H; rw [hy157]; with_reducible exact H2_) | (have H2_ := (Option.bind_some _ _).symm.trans H; with_reducible exact H2_) | with_reducible exact H | (rw [hy157]; exact H) | exact H
    have Ny157 := Aside0.mk hy157
    clear hy157
    obtain rfl := Option.some.inj H
    go_enter Try.func80, Try.ntmps80
    go_wp2_with (first | ((with_reducible refine gate_dst (N := 12) rfl ?_); refine Kd.R_lit (Kd.int .u8) _ 5 ?hg (N := 12) ?hd (xs := ([1, (a0) % 256, (a1) % 256, a2] : List Int)) (inner := [.int .u8 1, .int .u8 ((a0) % 256), .int .u8 ((a1) % 256), .int .u8 a2]) (ok := fun _ => True) (okp := fun _ => True) ?hr ?hp (fun _ hk => hk) trivial (Below.refl _ _) (Nat.le_refl _) (by simp) ?_; (case hd => rfl); (case hg => rfl); (case hr => first | (go_simp; done) | (go_simp; rfl)); (case hp => exact (Reps.one (show Kd.M (Kd.int .u8) _ _ _ 1 [.int .u8 1] from rfl) (Reps.one (show Kd.M (Kd.int .u8) _ _ _ ((a0) % 256) [.int .u8 ((a0) % 256)] from rfl) (Reps.one (show Kd.M (Kd.int .u8) _ _ _ ((a1) % 256) [.int .u8 ((a1) % 256)] from rfl) (Reps.one (show Kd.M (Kd.int .u8) _ _ _ a2 [.int .u8 a2] from rfl) (Reps.none _ _)))))); intro v155 w5 ho6 hb hg_ hnew_; clear hg_ hnew_; (first | rw [← Ny154.out] at ho6 | (simp only [Int.reduceToNat] at ho6; rw [← Ny154.out] at ho6)); have n0_ := Aside0.mk (Kd.R_lower ho6 (below_size (by repeat (first | (with_reducible first | exact HB.out | apply below_alloc | apply pw_below_drewN | apply below_drew1) | exact HB.out)))); have n1_ := Aside0.mk (below_step (by repeat (first | (with_reducible first | exact HB.out | apply below_alloc | apply pw_below_drewN | apply below_drew1) | exact HB.out)) hb); clear HB; have HO156 := n0_; have HB := n1_; clear n0_ n1_; clear hb ho6) | (at_builtin; refine Kd.R_append_zeros (Kd.int .u8) (w0 := w) w.heap.size rfl (.tmp 12) (.const (.int .i64 28)) 24 3 5 (.int .u8 0) 1 rfl Try.underlying24 Try.underlying3 info5 rfl (by decide) (by omega) v155 y154 0 (28 : Int) (fun _ => True) rfl rfl rfl ?aF ?aO (by omega) ?aB ?aS ?aL ?_; (case aB => exact (by repeat (first | (with_reducible first | exact HB.out | apply below_alloc | apply pw_below_drewN | apply below_drew1) | exact HB.out))); (case aF => exact (fun _ _ => trivial)); (case aO => exact (by (with_reducible repeat (first | apply Kd.R_alloc | apply Kd.R_drewN | apply Kd.R_drew)); exact HO156.out)); (case aS => exact (below_size (by repeat (first | (with_reducible first | exact HB.out | apply below_alloc | apply pw_below_drewN | apply below_drew1) | exact HB.out)))); (case aL => have := LMc4.out; omega); intro v158 w7 ho hb hg hat; (first | rw [← Ny157.out] at ho | (simp only [Int.reduceToNat] at ho; rw [← Ny157.out] at ho)); have n0_ := Aside0.mk (hb); have n1_ := Aside0.mk (ho); clear HB; clear HO156; have HB := n0_; have HO159 := n1_; clear n0_ n1_; clear ho hb hg hat))
    go_ret
    exact ⟨_, by first | rfl | (simp [errW_none, errW_some] <;> rfl) | (simp [*, errW_none, errW_some] <;> rfl), by (with_reducible repeat (first | apply Kd.R_alloc | apply Kd.R_drewN | apply Kd.R_drew)); exact HO159.out, by repeat (first | (with_reducible first | exact HB.out | apply below_alloc | apply pw_below_drewN | apply below_drew1) | exact HB.out)⟩
  · rw [if_neg c4] at H
    exact absurd H (by simp)
end Go.Proofs.Ytpbnppeodoflcaa.PPg
end
section
namespace Go.Proofs.Ytpbnppeodoflcaa.Pure
open Go.RowKit Go.Proofs.Ytpbnppeodoflcaa.PPg Go.Proofs.Ytpbnppeodoflcaa.E Go.Proofs.YtpbnppeodoflcaaW.PrintWords Go.Proofs.YtpbnppeodoflcaaW.PrintLast Go.Proofs.YtpbnppeodoflcaaW.PrintMore
set_option linter.unusedVariables false
/-- A config that may be. -/
def CfgOk (c0 c1 c2 c3 c4 c5 : Int) : Prop := (1 ≤ c0 ∧ c0 ≤ 3) ∧ (1 ≤ c1 ∧ c1 ≤ 16) ∧ (c0 + 2 ≤ c2 ∧ c2 ≤ 32) ∧ (1 ≤ c3 ∧ c3 ≤ c0) ∧ (1 ≤ c4 ∧ c4 ≤ 4) ∧ (4 ≤ c5 ∧ c5 ≤ 64)
instance (c0 c1 c2 c3 c4 c5 : Int) : Decidable (CfgOk c0 c1 c2 c3 c4 c5) := by unfold CfgOk; infer_instance
theorem bnd_iff (b : Int × Int × Int) : bndB b = true ↔ b.2.1 ≤ b.1 ∧ b.1 ≤ b.2.2 := by
  unfold bndB
  simp
theorem cfg_tells (c0 c1 c2 c3 c4 c5 : Int) (h0 : (Lit.int .i64 c0).wf = true) : cfgS c0 c1 c2 c3 c4 c5 = if CfgOk c0 c1 c2 c3 c4 c5 then 0 else 8 := by
  have hw := wfi64 h0
  unfold cfgS
  by_cases hb : (bndC c0 c1 c2 c3 c4 c5).all bndB = true
  · rw [if_pos hb]
    simp only [bndC, List.all_cons, List.all_nil, Bool.and_true, Bool.and_eq_true, bnd_iff] at hb
    rw [w64_id (by omega) (by omega)]
    by_cases h2 : c2 < c0 + 2
    · rw [if_pos h2, if_neg (fun h => by unfold CfgOk at h; omega)]
    · rw [if_neg h2, if_pos (by unfold CfgOk; omega)]
  · rw [if_neg hb, if_neg]
    intro h
    unfold CfgOk at h
    apply hb
    simp only [bndC, List.all_cons, List.all_nil, Bool.and_true, Bool.and_eq_true, bnd_iff]
    omega
theorem may_tells (c0 c1 c2 c3 c4 c5 : Int) (h0 : (Lit.int .i64 c0).wf = true) (k : Nat) : catamaranref07_May.f (k + 1) c0 c1 c2 c3 c4 c5 = some (decide (CfgOk c0 c1 c2 c3 c4 c5)) := by
  have hw := wfi64 h0
  have hin : ∀ a b c : Int, catamaranref07_in.f a b c = some (decide (b ≤ a ∧ a ≤ c)) := by
    intro a b c
    unfold catamaranref07_in.f
    by_cases h : a ≥ b
    · rw [if_pos h]; congr 1; exact decide_eq_decide.2 ⟨fun x => ⟨h, x⟩, fun x => x.2⟩
    · rw [if_neg h, decide_eq_false (by omega)]
  have no : ¬ CfgOk c0 c1 c2 c3 c4 c5 → decide (CfgOk c0 c1 c2 c3 c4 c5) = false := fun h => decide_eq_false h
  unfold catamaranref07_May.f
  simp only [hin, Option.bind_some, catamaranref07_May.j0, decide_eq_true_eq]
  by_cases h1 : 1 ≤ c0 ∧ c0 ≤ 3
  · rw [if_pos h1]
    by_cases h2 : 1 ≤ c1 ∧ c1 ≤ 16
    · rw [if_pos h2, w64_id (by omega) (by omega)]
      by_cases h3 : c0 + 2 ≤ c2 ∧ c2 ≤ 32
      · rw [if_pos h3]
        by_cases h4 : 1 ≤ c3 ∧ c3 ≤ c0
        · rw [decide_eq_true h4, if_neg (by decide)]
          by_cases h5 : 1 ≤ c4 ∧ c4 ≤ 4
          · rw [if_pos h5]
            congr 1
            exact decide_eq_decide.2 ⟨fun h6 => ⟨h1, h2, h3, h4, h5, h6⟩, fun h => h.2.2.2.2.2⟩
          · rw [if_neg h5, no (fun h => h5 h.2.2.2.2.1)]
        · rw [decide_eq_false h4, if_pos (by decide), no (fun h => h4 h.2.2.2.1)]
      · rw [if_neg h3, if_pos trivial, no (fun h => h3 h.2.2.1)]
    · rw [if_neg h2, if_pos trivial, no (fun h => h2 h.2.1)]
  · rw [if_neg h1, if_pos trivial, no (fun h => h1 h.1)]
/-- How many pages a pair has. -/
def manyS (c1 : Int) : Int := if c1 > 8 then 2 else 1
theorem pgs_tells {c1 : Int} (h0 : 1 ≤ c1) (h1 : c1 ≤ 16) : pgsS c1 = manyS c1 := by
  unfold pgsS manyS
  rw [w64_id (x := c1 + 8) (by omega) (by omega), w64_id (x := c1 + 8 - 1) (by omega) (by omega), Int.tdiv_eq_ediv_of_nonneg (by omega), w64_id (by omega) (by omega)]
  split <;> omega
theorem allB_len {c1 : Int} (h0 : 1 ≤ c1) : ((allB c1).length : Int) = manyS c1 := by
  unfold allB
  unfold manyS
  split <;> split <;> first | rfl | omega
/-- Where a page stands. -/
def atS (c0 c1 c2 a1 a2 : Int) : Int := 2 + 2 * c2 + a1 * manyS c1 + a2
def PageOk (c0 c1 a1 a2 : Int) : Prop := (0 ≤ a1 ∧ a1 < c0) ∧ 0 ≤ a2 ∧ a2 < manyS c1
instance (c0 c1 a1 a2 : Int) : Decidable (PageOk c0 c1 a1 a2) := by unfold PageOk; infer_instance
theorem mul_many {a1 c1 : Int} (h0 : 0 ≤ a1) (h1 : a1 < 3) : 0 ≤ a1 * manyS c1 ∧ a1 * manyS c1 ≤ 4 := by
  unfold manyS
  split <;> omega
theorem page_tells (c0 c1 c2 c3 c4 c5 a1 a2 : Int) (h0 : (Lit.int .i64 c0).wf = true) : pageS c0 c1 c2 c3 c4 c5 a1 a2 = if CfgOk c0 c1 c2 c3 c4 c5 then (if PageOk c0 c1 a1 a2 then (atS c0 c1 c2 a1 a2, 0) else (0, 2)) else (0, 8) := by
  unfold pageS
  rw [cfg_tells c0 c1 c2 c3 c4 c5 h0]
  by_cases hc : CfgOk c0 c1 c2 c3 c4 c5
  · rw [if_pos hc, if_pos hc, if_pos rfl]
    have hp := hc
    obtain ⟨⟨p0, p1⟩, ⟨p2, p3⟩, ⟨p4, p5⟩, _⟩ := hp
    have hm := pgs_tells p2 p3
    have hmm : 1 ≤ manyS c1 ∧ manyS c1 ≤ 2 := by unfold manyS; split <;> omega
    have hb : (bndP c0 c1 a1 a2).all bndB = decide (PageOk c0 c1 a1 a2) := by
      simp only [bndP, List.all_cons, List.all_nil, Bool.and_true]
      rw [hm, w64_id (x := c0 - 1) (by omega) (by omega), w64_id (x := manyS c1 - 1) (by omega) (by omega)]
      rw [Bool.eq_iff_iff, Bool.and_eq_true, bnd_iff, bnd_iff, decide_eq_true_eq]
      unfold PageOk
      simp only []
      omega
    rw [hb]
    by_cases hP : PageOk c0 c1 a1 a2
    · rw [if_pos (decide_eq_true hP), if_pos hP]
      have hq := mul_many (c1 := c1) hP.1.1 (by have := hP.1.2; omega)
      have h3 := hP.2
      rw [hm]
      unfold atS
      congr 1
      rw [show wrap64 (wrap64 (wrap64 1 * 2)) = 2 from by unfold wrap64; omega, w64_id (x := 2 * c2) (by omega) (by omega), w64_id (x := 2 * c2) (by omega) (by omega), w64_id (x := a1 * manyS c1) (by omega) (by omega), w64_id (x := a1 * manyS c1 + a2) (by omega) (by omega), w64_id (x := a1 * manyS c1 + a2) (by omega) (by omega), w64_id (x := 2 + 2 * c2) (by omega) (by omega), w64_id (by omega) (by omega)]
      omega
    · rw [if_neg (by rw [decide_eq_false hP]; decide), if_neg hP]
  · rw [if_neg hc, if_neg hc, if_neg (by decide)]
theorem OfPage_tells (c0 c1 c2 c3 c4 c5 a1 a2 : Int) (hc : CfgOk c0 c1 c2 c3 c4 c5) (hP : PageOk c0 c1 a1 a2) : catamaranref07_OfPage.f c0 c1 c2 c3 c4 c5 a1 a2 = some (atS c0 c1 c2 a1 a2) := by
  have hM : catamaranref07_Many.f c0 c1 c2 c3 c4 c5 = some (manyS c1) := by unfold catamaranref07_Many.f manyS; split <;> rfl
  obtain ⟨⟨p0, p1⟩, ⟨p2, p3⟩, ⟨p4, p5⟩, _⟩ := hc
  have hmm : 1 ≤ manyS c1 ∧ manyS c1 ≤ 2 := by unfold manyS; split <;> omega
  have hq := mul_many (c1 := c1) hP.1.1 (by have := hP.1.2; omega)
  have h2 := hP.2
  unfold catamaranref07_OfPage.f catamaranref07_first.f
  rw [hM]
  simp only [Option.bind_some]
  unfold atS
  rw [w64_id (x := 2 * c2) (by omega) (by omega), w64_id (x := 2 + 2 * c2) (by omega) (by omega), w64_id (x := a1 * manyS c1) (by omega) (by omega), w64_id (x := 2 + 2 * c2 + a1 * manyS c1) (by omega) (by omega), w64_id (by omega) (by omega)]
/-- A page's text, or the error. -/
def textS (c0 c1 c2 c3 c4 c5 a1 a2 a3 : Int) : List Int × Int := if CfgOk c0 c1 c2 c3 c4 c5 then (if PageOk c0 c1 a1 a2 then (if Go.bits .andNot .u8 a3 (rd (allB c1) a2) = 0 then ([1, a1 % 256, a2 % 256, a3] ++ List.replicate 28 0, 0) else ([], 2)) else ([], 2)) else ([], 8)
def planS (c0 c1 c2 c3 c4 c5 a1 a2 a3 : Int) : Int × List Int × Int := if (textS c0 c1 c2 c3 c4 c5 a1 a2 a3).2 = 0 then (atS c0 c1 c2 a1 a2, (textS c0 c1 c2 c3 c4 c5 a1 a2 a3).1, 0) else (0, [], (textS c0 c1 c2 c3 c4 c5 a1 a2 a3).2)
theorem textS_ok {c0 c1 c2 c3 c4 c5 a1 a2 a3 : Int} (h : (textS c0 c1 c2 c3 c4 c5 a1 a2 a3).2 = 0) : CfgOk c0 c1 c2 c3 c4 c5 ∧ PageOk c0 c1 a1 a2 := by
  unfold textS at h
  split at h
  · split at h
    · exact ⟨by assumption, by assumption⟩
    · simp at h
  · simp at h
theorem at_tells (c0 c1 c2 c3 c4 c5 a1 a2 : Int) (h0 : (Lit.int .i64 c0).wf = true) : page_at.f c0 c1 c2 c3 c4 c5 a1 a2 = some (if CfgOk c0 c1 c2 c3 c4 c5 then (if PageOk c0 c1 a1 a2 then (atS c0 c1 c2 a1 a2, rd (allB c1) a2, 0) else (0, 0, 2)) else (0, 0, 8)) := by
  unfold page_at.f place_Page.f
  rw [page_tells c0 c1 c2 c3 c4 c5 a1 a2 h0]
  simp only [Option.bind_some]
  by_cases hc : CfgOk c0 c1 c2 c3 c4 c5
  · rw [if_pos hc, if_pos hc]
    by_cases hP : PageOk c0 c1 a1 a2
    · rw [if_pos hP, if_pos hP, if_pos rfl]
      have h1 := hc.2.1
      unfold bits_All.f
      rw [if_pos h1]
      simp only [Option.bind_some]
      rw [if_pos hP.2.1, if_pos (by rw [allB_len h1.1]; exact hP.2.2)]
    · rw [if_neg hP, if_neg hP, if_neg (by decide)]
  · rw [if_neg hc, if_neg hc, if_neg (by decide)]
theorem Text_tells (c0 c1 c2 c3 c4 c5 a1 a2 a3 : Int) (h0 : (Lit.int .i64 c0).wf = true) : page_Text.f c0 c1 c2 c3 c4 c5 a1 a2 a3 = some (textS c0 c1 c2 c3 c4 c5 a1 a2 a3) := by
  unfold page_Text.f textS
  rw [at_tells c0 c1 c2 c3 c4 c5 a1 a2 h0]
  simp only [Option.bind_some]
  by_cases hc : CfgOk c0 c1 c2 c3 c4 c5
  · rw [if_pos hc, if_pos hc]
    by_cases hP : PageOk c0 c1 a1 a2
    · rw [if_pos hP, if_pos hP, if_pos rfl]
      simp only []
      by_cases hb : Go.bits .andNot .u8 a3 (rd (allB c1) a2) = 0
      · rw [if_pos hb, if_pos hb]
        rfl
      · rw [if_neg hb, if_neg hb]
    · rw [if_neg hP, if_neg hP, if_neg (by decide)]
  · rw [if_neg hc, if_neg hc, if_neg (by decide)]
theorem Plan_tells (c0 c1 c2 c3 c4 c5 a1 a2 a3 : Int) (h0 : (Lit.int .i64 c0).wf = true) : page_Plan.f c0 c1 c2 c3 c4 c5 a1 a2 a3 = some (planS c0 c1 c2 c3 c4 c5 a1 a2 a3) := by
  unfold page_Plan.f planS
  rw [Text_tells c0 c1 c2 c3 c4 c5 a1 a2 a3 h0, at_tells c0 c1 c2 c3 c4 c5 a1 a2 h0]
  simp only [Option.bind_some]
  by_cases h : (textS c0 c1 c2 c3 c4 c5 a1 a2 a3).2 = 0
  · obtain ⟨hc, hP⟩ := textS_ok h
    rw [if_pos h, if_pos h, if_pos hc, if_pos hP]
  · rw [if_neg h, if_neg h]
end Go.Proofs.Ytpbnppeodoflcaa.Pure
end
section
namespace Go.Proofs.Ytpbnppeodoflcaa.E
open Go.RowKit Go.Proofs.Ytpbnppeodoflcaa.PDf Go.Proofs.Ytpbnppeodoflcaa.Pure Go.Proofs.YtpbnppeodoflcaaW.PrintWords Go.Proofs.YtpbnppeodoflcaaW.PrintLast Go.Proofs.YtpbnppeodoflcaaW.PrintMore
set_option linter.unusedVariables false
set_option linter.unusedSimpArgs false
def zMsg : S134 := ⟨0, 0, false, (⟨0, 0, 0, 0, 0, 0, false, false⟩ : S132), 0, 0, 0, 0, 0, 0, ([] : List Int), ([] : List Int)⟩
def zRep : S55 := ⟨0, 0, 0, ([] : List Int)⟩
def actOf (k at_ : Int) (b : List Int) : S136 := ⟨k, at_, b, 0, 0, zMsg, zRep, 0⟩
def zTail : List Value := [.int .u32 0, .int .u32 0, .int .u8 0, .int .i64 0, .bool false, .int .i64 0, .int .u32 0, .int .u32 0, .int .i64 0, .int .u8 0, .int .i64 0, .bool false, .bool false, .int .u8 0, .int .u32 0, .int .u32 0, .int .i64 0, .int .u32 0, .int .i64 0, .slice none 0 0, .slice none 0 0, .int .i64 0, .int .i64 0, .int .u8 0, .slice none 0 0, .int .i64 0]
theorem act_M (w : World) (base : Nat) (ok : Nat → Prop) (k a : Int) (b : List Int) {v : Value} (h : (Kd.int .u8).R 5 w base ok v b) : k136.M w base ok (actOf k a b) (.int .u8 k :: .int .i64 a :: v :: zTail) :=
  k136_mkM w base ok (actOf k a b) h (Kd.R_nil _ _ _ _ _) (Kd.R_nil _ _ _ _ _) (Kd.R_nil _ _ _ _ _)
theorem bcell {W w1 : World} (hb : Below W.heap.size W w1) : (∀ b o, b < W.heap.size → w1.cell? ⟨b, o, none⟩ = W.cell? ⟨b, o, none⟩) ∧ (∀ b o, b < W.heap.size → w1.frozen? ⟨b, o, none⟩ = W.frozen? ⟨b, o, none⟩) :=
  ⟨fun b o h => hb.cell (p := ⟨b, o, none⟩) h, fun b o h => hb.frozen (p := ⟨b, o, none⟩) h⟩
set_option maxHeartbeats 8000000 in
set_option maxRecDepth 100000 in
theorem turn_any (c0 c1 c2 c3 c4 c5 pr n b pa pe : Int) (pl set_ : List Int) (b1 b2 b3 b4 g : Nat) (SA : Option Addr) (sc : Nat) (v : Value) (acts : List S136) (w0 w : World) (hbase : Below w0.heap.size w0 w) (hb4 : w0.heap.size ≤ b4) (hg : g < w.heap.size)
    (h1 : w.heap[b1]? = some (.cells #[.int .i64 c0, .int .i64 c1, .int .i64 c2, .int .i64 c3, .int .i64 c4, .int .i64 c5] 23 (0, 0)))
    (h2 : w.heap[b2]? = some (.cells #[.int .i64 pr] 3 (0, 0))) (h3 : w.heap[b3]? = some (.cells #[.slice SA set_.length sc] 24 (0, 0))) (h4 : w.heap[b4]? = some (.cells #[v] 118 (0, 0)))
    (hC : Kd.C (Kd.int .u8) w0 SA set_.length set_) (h0 : 0 ≤ n) (hn : n < set_.length) (hbn : rd set_ n = b)
    (hS : Kd.S k136 136 w w0.heap.size (fun k => k ≠ g) v acts) (hl : acts.length ≤ 1000) (hw : (Lit.int .i64 c0).wf = true) (hp : planS c0 c1 c2 c3 c4 c5 pr n b = (pa, pl, pe)) :
    Calls Try.prog 179 #[.int .i64 n, .pointer (some ⟨b1, 0, none⟩), .pointer (some ⟨b2, 0, none⟩), .pointer (some ⟨b3, 0, none⟩), .pointer (some ⟨b4, 0, none⟩)] w fun e w' => ∃ v1 : Value, e = .returned (.int .u8 b) ∧ w'.heap[b4]? = some (.cells #[v1] 118 (0, 0)) ∧ Kd.S k136 136 w' w0.heap.size (fun k => k ≠ g) v1 (acts ++ [actOf 1 pa pl]) ∧ KeepBut w w' b4 v.ownBlock ∧ Below w0.heap.size w0 w' := by
  have HB := Aside0.mk hbase
  have HB4 := Aside0.mk hb4
  have HG := Aside0.mk hg
  have H1 := Aside0.mk h1
  have H2 := Aside0.mk h2
  have H3 := Aside0.mk h3
  have H4 := Aside0.mk h4
  have HC := Aside0.mk hC
  have HN0 := Aside0.mk h0
  have HN := Aside0.mk hn
  have HBN := Aside0.mk hbn
  have HS := Aside0.mk hS
  have HL := Aside0.mk hl
  have HP := Aside0.mk ((Plan_tells c0 c1 c2 c3 c4 c5 pr n b hw).trans (congrArg some hp))
  clear hbase hb4 hg h1 h2 h3 h4 hC h0 hn hbn hS hl hw hp
  obtain ⟨ad, e1, hx⟩ := Kd.at_int HC.out n HN0.out HN.out
  subst e1
  rw [HBN.out] at hx
  have HX := Aside0.mk hx
  have hKeep : ∀ W : World, Below w.heap.size w W → W.cell? ⟨b1, 0, none⟩ = some (.int .i64 c0) ∧ W.cell? ⟨b1, 1, none⟩ = some (.int .i64 c1) ∧ W.cell? ⟨b1, 2, none⟩ = some (.int .i64 c2) ∧ W.cell? ⟨b1, 3, none⟩ = some (.int .i64 c3) ∧ W.cell? ⟨b1, 4, none⟩ = some (.int .i64 c4) ∧ W.cell? ⟨b1, 5, none⟩ = some (.int .i64 c5) ∧ W.cell? ⟨b2, 0, none⟩ = some (.int .i64 pr) ∧ W.cell? ⟨b3, 0, none⟩ = some (.slice (some ad) set_.length sc) ∧ W.cell? (ad.add n.toNat) = some (.int .u8 b) := fun W h =>
    ⟨(blk_cell (blk_below H1.out h) 0).trans rfl, (blk_cell (blk_below H1.out h) 1).trans rfl, (blk_cell (blk_below H1.out h) 2).trans rfl, (blk_cell (blk_below H1.out h) 3).trans rfl, (blk_cell (blk_below H1.out h) 4).trans rfl, (blk_cell (blk_below H1.out h) 5).trans rfl, (blk_cell (blk_below H2.out h) 0).trans rfl, (blk_cell (blk_below H3.out h) 0).trans rfl, pw_cell_below (below_step HB.out h) HX.out⟩
  have HK := Aside0.mk hKeep
  clear hKeep hx
  obtain ⟨k0, k1, k2, k3, k4, k5, m2, m3, hx⟩ := HK.out w (Below.refl _ _)
  have i0 : decide (0 ≤ n) = true := decide_eq_true HN0.out
  have i1 : decide (n < (set_.length : Int)) = true := decide_eq_true HN.out
  have p1 := eq_true HN0.out
  have q1 := eq_true HN.out
  go_enter Try.func179, Try.ntmps179
  go_upto_region 1 with fail
  go_cut [7] (fun s7 wx => ∃ (g7 : Nat) (pv : Value), s7 = .pointer (some ⟨g7, 0, none⟩) ∧ Aside0 (wx.heap[g7]? = some (.cells #[.int .i64 pa, pv] 31 (0, 0))) ∧ Aside0 (Kd.R (Kd.int .u8) 5 wx w.heap.size (fun _ => True) pv pl) ∧ Aside0 (Below w.heap.size w wx))
  case first =>
    go_region_held3 (fun w' => w'.cell? ⟨b1, 0, none⟩ = some (.int .i64 c0) ∧ w'.cell? ⟨b1, 1, none⟩ = some (.int .i64 c1) ∧ w'.cell? ⟨b1, 2, none⟩ = some (.int .i64 c2) ∧ w'.cell? ⟨b1, 3, none⟩ = some (.int .i64 c3) ∧ w'.cell? ⟨b1, 4, none⟩ = some (.int .i64 c4) ∧ w'.cell? ⟨b1, 5, none⟩ = some (.int .i64 c5) ∧ w'.cell? ⟨b2, 0, none⟩ = some (.int .i64 pr) ∧ w'.cell? ⟨b3, 0, none⟩ = some (.slice (some ad) set_.length sc) ∧ w'.cell? (ad.add n.toNat) = some (.int .u8 b)) (first | go_keep | exact HK.out _ (by repeat (first | exact Below.refl _ _ | apply below_drew | apply below_alloc | apply pw_below_drewN | refine below_step ?_ hb | refine below_set ?_ (Nat.le_refl _)))) (first | (go_at_call 17; refine (PPg.page_Plan.calls c0 c1 c2 c3 c4 c5 pr n b pa pl pe _ HP.out).mono ?_; rintro e w2 ⟨pv, rfl, hr, hb⟩; (obtain ⟨A3, n3, e3⟩ := Kd.R_slice hr); subst e3; obtain ⟨hcl, hfr⟩ := bcell hb))
    · go_wp2_with fail
      go_meet
      exact ⟨_, _, rfl, ⟨heap_alloc_new _ _⟩, ⟨Kd.R_alloc hr _⟩, ⟨below_alloc (below_step (below_drew (Below.refl _ _)) hb) _⟩⟩
    · go_wp2_with fail
      go_meet
      have hz := blk_below (blk_drew (heap_alloc_new w (.cells #[.int .i64 0, .slice none 0 0] 31))) hb
      have hz1 := blk_put (cs' := #[.int .i64 pa, .slice none 0 0]) hz 0 (.int .i64 pa) (by rfl)
      have hz2 := blk_put (cs' := #[.int .i64 pa, .slice A3 pl.length n3]) hz1 1 (.slice A3 pl.length n3) (by rfl)
      exact ⟨_, _, rfl, ⟨hz2⟩, ⟨Kd.R_lower (Kd.R_set (Kd.R_set hr hz (by decide) 0 _) hz1 (by decide) 1 _) (by simp)⟩, ⟨below_set (below_set (below_step (below_drew (below_alloc (Below.refl _ _) _)) hb) (Nat.le_refl _)) (Nat.le_refl _)⟩⟩
  case rest =>
    obtain ⟨g7, pv, rfl, HG7, HR7, HB7⟩ := hcut
    clear k0 k1 k2 k3 k4 k5 m2 m3 hx i0 i1 p1 q1
    have m4 : wc.cell? ⟨b4, 0, none⟩ = some v := (blk_cell (blk_below H4.out HB7.out) 0).trans rfl
    have n0 : wc.cell? ⟨g7, 0, none⟩ = some (.int .i64 pa) := (blk_cell HG7.out 0).trans rfl
    have n1 : wc.cell? ⟨g7, 1, none⟩ = some pv := (blk_cell HG7.out 1).trans rfl
    obtain ⟨Av, cv, ev⟩ := Kd.S_slice HS.out
    obtain ⟨Ap, cp, ep⟩ := Kd.R_slice HR7.out
    subst ev ep
    have hS1 := Aside0.mk (Kd.S_mono (ok' := fun k => k ≠ g ∧ ¬ (some k = (.slice Ap pl.length cp : Value).ownBlock)) (Kd.S_elder' HS.out (Kd.R_base HR7.out) HB7.out) (fun _ hk => hk))
    have hM1 := Aside0.mk (act_M wc w0.heap.size (fun k => some k = (.slice Ap pl.length cp : Value).ownBlock) 1 pa pl (Kd.R_flat (fun h => h) (Kd.R_lower HR7.out HB.out.size) (fun k hk _ => hk.symm)))
    have hok1 : Aside0 (∀ k, some k = (.slice Ap pl.length cp : Value).ownBlock → k ≠ g ∧ some k ≠ (.slice Av acts.length cv : Value).ownBlock) := ⟨fun k hk => ⟨fun e => by
      have h1 := Kd.R_base HR7.out k hk.symm
      have h2 := HG.out
      omega, fun e => by
      have h1 := Kd.R_base HR7.out k hk.symm
      have h2 := Kd.S_lt HS.out k e.symm
      omega⟩⟩
    have hfr1 : Aside0 (∀ k, wc.heap.size ≤ k → k ≠ g) := ⟨fun k hk e => by have h1 := HB7.out.size; have h2 := HG.out; omega⟩
    have hB1 := Aside0.mk (below_step HB.out HB7.out)
    go_upto_region 3 with (first | ((with_reducible refine gate_builtin (b := .append) (xs := #[.tmp 20, .tmp 26]) rfl ?_); at_builtin; refine Kd.S_append k136 (w0 := w0) w0.heap.size rfl (.tmp 20) (.tmp 26) 118 136 _ 264 rfl Try.underlying118 info136 rfl (by decide) (by omega) (.slice Av acts.length cv) acts (actOf 1 pa pl) _ (fun k => k ≠ g) (fun k => some k = (.slice Ap pl.length cp : Value).ownBlock) rfl rfl hM1.out hok1.out hfr1.out hS1.out hB1.out hB1.out.size (by have := HL.out; omega) ?_; intro v1 w5 ho hb hg hat; (have HS5 := Aside0.mk ho); (have HB5 := Aside0.mk hb); (have HG5 := Aside0.mk hg); (have HK4 := Aside0.mk (blk_grown (blk_below H4.out HB7.out) hg (Kd.S_ne (Kd.S_below HS.out HB7.out) (blk_below H4.out HB7.out) (by decide)))); (obtain ⟨Aw, cw, ew⟩ := Kd.S_slice ho); (rw [List.length_append, List.length_singleton] at ew); subst ew; (have m5 := (blk_cell HK4.out 0).trans rfl); (have f5 := blk_frozen HK4.out 0); clear ho hb hg hat))
    have hk6 := blk_put (cs' := #[.slice Aw (acts.length + 1) cw]) HK4.out 0 (.slice Aw (acts.length + 1) cw) (by rfl)
    have HK6 := Aside0.mk hk6
    have HS6 := Aside0.mk (Kd.S_set HS5.out HK4.out (by decide) 0 (.slice Aw (acts.length + 1) cw))
    have HB6 := Aside0.mk (below_set (j := 0) (v := .slice Aw (acts.length + 1) cw) HB5.out HB4.out)
    have HKB : Aside0 (KeepBut w (w5.setCell ⟨b4, 0, none⟩ (.slice Aw (acts.length + 1) cw)) b4 (Value.slice Av acts.length cv).ownBlock) := ⟨((KeepBut.of_below HB7.out b4 (Value.slice Av acts.length cv).ownBlock).trans (KeepBut.of_grown HG5.out b4) (.inl rfl)).set_ 0 _⟩
    clear hk6 m5 f5
    generalize w5.setCell ⟨b4, 0, none⟩ (.slice Aw (acts.length + 1) cw) = w6 at HK6 HS6 HB6 HKB ⊢
    have m3 : w6.cell? ⟨b3, 0, none⟩ = some (.slice (some ad) set_.length sc) := (blk_cell (HKB.out.blk H3.out (blk_ne H3.out H4.out (by decide)) (Kd.S_ne HS.out H3.out (by decide))) 0).trans rfl
    have hx := pw_cell_below HB6.out HX.out
    have i0 : decide (0 ≤ n) = true := decide_eq_true HN0.out
    have i1 : decide (n < (set_.length : Int)) = true := decide_eq_true HN.out
    have p1 := eq_true HN0.out
    have q1 := eq_true HN.out
    go_wp2
    go_ret
    exact ⟨_, rfl, HK6.out, HS6.out, HKB.out, HB6.out⟩
end Go.Proofs.Ytpbnppeodoflcaa.E
end
section
namespace Go.Proofs.Ytpbnppeodoflcaa.E
open Go.RowKit Go.Proofs.Ytpbnppeodoflcaa.PDf Go.Proofs.Ytpbnppeodoflcaa.Pure Go.Proofs.YtpbnppeodoflcaaW.PrintWords Go.Proofs.YtpbnppeodoflcaaW.PrintLast Go.Proofs.YtpbnppeodoflcaaW.PrintMore
set_option linter.unusedVariables false
set_option linter.unusedSimpArgs false
abbrev Act_ := S136
/-- The acts' variable, and what it holds. -/
def LSt (w0 W : World) (b4 g : Nat) (acts : List Act_) : Prop := ∃ v : Value, W.heap[b4]? = some (.cells #[v] 118 (0, 0)) ∧ Kd.S k136 136 W w0.heap.size (fun k => k ≠ g) v acts
theorem LSt.below {w0 W W1 : World} {b4 g : Nat} {acts : List Act_} (h : LSt w0 W b4 g acts) (hb : Below W.heap.size W W1) : LSt w0 W1 b4 g acts := by
  obtain ⟨v, h1, h2⟩ := h
  exact ⟨v, blk_below h1 hb, Kd.S_below h2 hb⟩
theorem LSt.drewN {w0 W : World} {b4 g : Nat} {acts : List Act_} (h : LSt w0 W b4 g acts) (n : Nat) : LSt w0 (W.drewN n) b4 g acts := by
  obtain ⟨v, h1, h2⟩ := h
  exact ⟨v, blk_drewN h1 n, Kd.S_drewN h2 n⟩
theorem LSt.far {w0 W : World} {b4 g : Nat} {acts : List Act_} (h : LSt w0 W b4 g acts) (hg : b4 ≠ g) (j : Nat) (u : Value) : LSt w0 (W.setCell ⟨g, j, none⟩ u) b4 g acts := by
  obtain ⟨v, h1, h2⟩ := h
  exact ⟨v, blk_far (p := ⟨g, j, none⟩) h1 hg u, Kd.S_far (p := ⟨g, j, none⟩) h2 (fun _ hk => hk) u⟩
def flushS (acts : List Act_) : List Act_ := if acts.length = 0 then acts else acts ++ [actOf 2 0 []]
def FlushPost (w0 w : World) (u : FrameMode) (b4 g : Nat) (acts : List Act_) (e : Ending) (u' : FrameMode) (w' : World) : Prop :=
  u' = u ∧ (e = .returned (.tuple #[]) ∧ LSt w0 w' b4 g (flushS acts) ∧ Below w0.heap.size w0 w' ∧ w'.heap[g]? = w.heap[g]?)
set_option maxHeartbeats 8000000 in
set_option maxRecDepth 100000 in
theorem flush_none (w0 w : World) (u : FrameMode) (b4 g : Nat) (acts : List Act_) (h : LSt w0 w b4 g acts) (ha : acts.length = 0) (hb : Below w0.heap.size w0 w) :
    CallsD Try.prog 177 #[.pointer (some ⟨b4, 0, none⟩)] u w (FlushPost w0 w u b4 g acts) := by
  have HL := Aside0.mk h
  obtain ⟨v, h1, h2⟩ := h
  obtain ⟨Av, cv, ev⟩ := Kd.S_slice h2
  rw [ha] at ev
  subst ev
  have m4 : w.cell? ⟨b4, 0, none⟩ = some (.slice Av 0 cv) := (blk_cell h1 0).trans rfl
  have HA := Aside0.mk ha
  have HB := Aside0.mk hb
  clear h1 h2 ha hb
  go_enter_d Try.func177, Try.ntmps177
  go_wp2
  go_end0
  refine ⟨rfl, ?_, HB.out, rfl⟩
  unfold flushS
  rw [if_pos HA.out]
  exact HL.out
set_option maxHeartbeats 8000000 in
set_option maxRecDepth 100000 in
theorem flush_some (w0 w : World) (u : FrameMode) (b4 g : Nat) (acts : List Act_) (h : LSt w0 w b4 g acts) (ha : 0 < acts.length) (hl : acts.length ≤ 1000) (hb : Below w0.heap.size w0 w) (hb4 : w0.heap.size ≤ b4) (hg : g < w.heap.size) (hne : g ≠ b4) :
    CallsD Try.prog 177 #[.pointer (some ⟨b4, 0, none⟩)] u w (FlushPost w0 w u b4 g acts) := by
  obtain ⟨v, h1, h2⟩ := h
  obtain ⟨Av, cv, ev⟩ := Kd.S_slice h2
  subst ev
  have m4 : w.cell? ⟨b4, 0, none⟩ = some (.slice Av acts.length cv) := (blk_cell h1 0).trans rfl
  have H1 := Aside0.mk h1
  have HS := Aside0.mk h2
  have HS1 := Aside0.mk (Kd.S_mono (ok' := fun k => k ≠ g ∧ ¬ False) h2 (fun _ hk => ⟨hk, fun e => e⟩))
  have HM1 := Aside0.mk (act_M w w0.heap.size (fun _ => False) 2 0 [] (Kd.R_nil _ _ _ _ _))
  have HA := Aside0.mk ha
  have HL := Aside0.mk hl
  have HB := Aside0.mk hb
  have HB4 := Aside0.mk hb4
  have HG := Aside0.mk hg
  have HNE := Aside0.mk hne
  have k1 : decide ((0 : Int) < (acts.length : Int)) = true := decide_eq_true (by omega)
  have k2 : decide (0 < acts.length) = true := decide_eq_true ha
  clear h1 h2 ha hb hl hb4 hg hne
  go_enter_d Try.func177, Try.ntmps177
  go_wp2_with (first | ((with_reducible refine gate_builtin (b := .append) (xs := #[.tmp 4, .tmp 6]) rfl ?_); at_builtin; refine Kd.S_append k136 (w0 := w0) w0.heap.size rfl (.tmp 4) (.tmp 6) 118 136 _ 264 rfl Try.underlying118 info136 rfl (by decide) (by omega) (.slice Av acts.length cv) acts (actOf 2 0 []) _ (fun k => k ≠ g) (fun _ => False) rfl rfl HM1.out (fun _ h => h.elim) (fun k hk e => by have := HG.out; omega) HS1.out HB.out HB.out.size (by have := HL.out; omega) ?_; intro v1 w5 ho hb hg hat; (have HS5 := Aside0.mk ho); (have HB5 := Aside0.mk hb); (have HG5 := Aside0.mk hg); (have HK4 := Aside0.mk (blk_grown H1.out hg (Kd.S_ne HS.out H1.out (by decide)))); (obtain ⟨Aw, cw, ew⟩ := Kd.S_slice ho); (rw [List.length_append, List.length_singleton] at ew); subst ew; (have m5 := (blk_cell HK4.out 0).trans rfl); (have f5 := blk_frozen HK4.out 0); clear ho hb hg hat))
  go_end0
  have hk6 := blk_put (cs' := #[.slice Aw (acts.length + 1) cw]) HK4.out 0 (.slice Aw (acts.length + 1) cw) (by rfl)
  have HS6 := Kd.S_set HS5.out HK4.out (by decide) 0 (.slice Aw (acts.length + 1) cw)
  have HB6 := below_set (j := 0) (v := .slice Aw (acts.length + 1) cw) HB5.out HB4.out
  refine ⟨rfl, ?_, HB6, ?_⟩
  · unfold flushS
    rw [if_neg (by have := HA.out; omega)]
    exact ⟨_, hk6, HS6⟩
  · exact (Below.heap_setCell _ _ _ _ HNE.out).trans (HG5.out.block g HG.out (Kd.S_away HS.out (fun _ hk => hk)))
end Go.Proofs.Ytpbnppeodoflcaa.E
end
section
namespace Go.Proofs.Ytpbnppeodoflcaa.E
open Go.RowKit Go.Proofs.Ytpbnppeodoflcaa.PDf Go.Proofs.Ytpbnppeodoflcaa.Pure Go.Proofs.YtpbnppeodoflcaaW.PrintWords Go.Proofs.YtpbnppeodoflcaaW.PrintLast Go.Proofs.YtpbnppeodoflcaaW.PrintMore
set_option linter.unusedVariables false
set_option linter.unusedSimpArgs false
/-- One page after the other. -/
def eachF (A : Int → Bool) (mk : Int → Int → Act_) (set_ : List Int) : Nat → Int → List Int → List Act_ → List Int × List Act_
  | 0, _, cur, acts => (cur, acts)
  | m + 1, i, cur, acts => if A i = true then eachF A mk set_ m (i + 1) (cur.set i.toNat (rd set_ i)) (acts ++ [mk i (rd set_ i)]) else eachF A mk set_ m (i + 1) cur acts
def mkAct (c0 c1 c2 c3 c4 c5 pr i b : Int) : Act_ := actOf 1 (planS c0 c1 c2 c3 c4 c5 pr i b).1 (planS c0 c1 c2 c3 c4 c5 pr i b).2.1
/-- What stands while pages are written. -/
structure EI (c0 c1 c2 c3 c4 c5 pr : Int) (set_ : List Int) (SA : Option Addr) (sc b1 b2 b3 b4 g n cap : Nat) (w0 W : World) (cur : List Int) (acts : List Act_) : Prop where
  below : Below w0.heap.size w0 W
  cfg : W.heap[b1]? = some (.cells #[.int .i64 c0, .int .i64 c1, .int .i64 c2, .int .i64 c3, .int .i64 c4, .int .i64 c5] 23 (0, 0))
  pair_ : W.heap[b2]? = some (.cells #[.int .i64 pr] 3 (0, 0))
  set_ : W.heap[b3]? = some (.cells #[.slice SA set_.length sc] 24 (0, 0))
  lst : LSt w0 W b4 g acts
  out : Kd.R (Kd.int .u8) 5 W w0.heap.size (fun k => k = g) (.slice (some ⟨g, 0, none⟩) n cap) cur
theorem EI.drewN {c0 c1 c2 c3 c4 c5 pr : Int} {set_ : List Int} {SA : Option Addr} {sc b1 b2 b3 b4 g n cap : Nat} {w0 W : World} {cur : List Int} {acts : List Act_} (h : EI c0 c1 c2 c3 c4 c5 pr set_ SA sc b1 b2 b3 b4 g n cap w0 W cur acts) (m : Nat) : EI c0 c1 c2 c3 c4 c5 pr set_ SA sc b1 b2 b3 b4 g n cap w0 (W.drewN m) cur acts :=
  ⟨pw_below_drewN h.below m, blk_drewN h.cfg m, blk_drewN h.pair_ m, blk_drewN h.set_ m, h.lst.drewN m, Kd.R_drewN h.out m⟩
theorem EI.blk_g {c0 c1 c2 c3 c4 c5 pr : Int} {set_ : List Int} {SA : Option Addr} {sc b1 b2 b3 b4 g n cap : Nat} {w0 W : World} {cur : List Int} {acts : List Act_} (h : EI c0 c1 c2 c3 c4 c5 pr set_ SA sc b1 b2 b3 b4 g n cap w0 W cur acts) : ∃ cells, W.heap[g]? = some (.cells cells 5 (0, 0)) := by
  obtain ⟨inner, ho⟩ := Kd.R_own h.out
  exact own_typed ho g (by simp [Value.ownBlock])
theorem EI.len {c0 c1 c2 c3 c4 c5 pr : Int} {set_ : List Int} {SA : Option Addr} {sc b1 b2 b3 b4 g n cap : Nat} {w0 W : World} {cur : List Int} {acts : List Act_} (h : EI c0 c1 c2 c3 c4 c5 pr set_ SA sc b1 b2 b3 b4 g n cap w0 W cur acts) : n = cur.length := (Kd.R_reads' h.out).1
/-- A page has been turned: the acts' variable has one more. -/
theorem EI.turned {c0 c1 c2 c3 c4 c5 pr : Int} {set_ : List Int} {SA : Option Addr} {sc b1 b2 b3 b4 g n cap : Nat} {w0 W W1 : World} {cur : List Int} {acts acts1 : List Act_} {v v1 : Value} (h : EI c0 c1 c2 c3 c4 c5 pr set_ SA sc b1 b2 b3 b4 g n cap w0 W cur acts)
    (hv : W.heap[b4]? = some (.cells #[v] 118 (0, 0))) (hS : Kd.S k136 136 W w0.heap.size (fun k => k ≠ g) v acts)
    (hv1 : W1.heap[b4]? = some (.cells #[v1] 118 (0, 0))) (hS1 : Kd.S k136 136 W1 w0.heap.size (fun k => k ≠ g) v1 acts1) (hk : KeepBut W W1 b4 v.ownBlock) (hb : Below w0.heap.size w0 W1) :
    EI c0 c1 c2 c3 c4 c5 pr set_ SA sc b1 b2 b3 b4 g n cap w0 W1 cur acts1 := by
  obtain ⟨cells, hg⟩ := h.blk_g
  exact ⟨hb, hk.blk h.cfg (blk_ne h.cfg hv (by decide)) (Kd.S_ne hS h.cfg (by decide)), hk.blk h.pair_ (blk_ne h.pair_ hv (by decide)) (Kd.S_ne hS h.pair_ (by decide)), hk.blk h.set_ (blk_ne h.set_ hv (by decide)) (Kd.S_ne hS h.set_ (by decide)), ⟨v1, hv1, hS1⟩,
    Kd.R_step h.out (fun k e hlt => by subst e; exact hk.2 k hlt (blk_ne hg hv (by decide)) (Kd.S_away hS (fun _ hk => hk)))⟩
/-- A byte has been stored. -/
theorem EI.stored {c0 c1 c2 c3 c4 c5 pr : Int} {set_ : List Int} {SA : Option Addr} {sc b1 b2 b3 b4 g n cap : Nat} {w0 W : World} {cur : List Int} {acts : List Act_} (h : EI c0 c1 c2 c3 c4 c5 pr set_ SA sc b1 b2 b3 b4 g n cap w0 W cur acts) (i x : Int) (hgb : w0.heap.size ≤ g) :
    EI c0 c1 c2 c3 c4 c5 pr set_ SA sc b1 b2 b3 b4 g n cap w0 (W.setCell ⟨g, i.toNat, none⟩ (.int .u8 x)) (cur.set i.toNat x) acts := by
  obtain ⟨cells, hg⟩ := h.blk_g
  obtain ⟨v, hv, hS⟩ := h.lst
  exact ⟨below_set h.below hgb, blk_far (p := ⟨g, i.toNat, none⟩) h.cfg (blk_ne h.cfg hg (by decide)) _, blk_far (p := ⟨g, i.toNat, none⟩) h.pair_ (blk_ne h.pair_ hg (by decide)) _, blk_far (p := ⟨g, i.toNat, none⟩) h.set_ (blk_ne h.set_ hg (by decide)) _, h.lst.far (blk_ne hv hg (by decide)) _ _, Kd.R_putn h.out i x⟩
set_option maxHeartbeats 8000000 in
set_option maxRecDepth 100000 in
theorem each_any (c0 c1 c2 c3 c4 c5 pr : Int) (set_ : List Int) (SA : Option Addr) (sc b1 b2 b3 b4 g n cap : Nat) (w0 w : World) (cur : List Int) (acts : List Act_) (A : Int → Bool) (FA : FuncId) (q1 q2 : Value)
    (h : EI c0 c1 c2 c3 c4 c5 pr set_ SA sc b1 b2 b3 b4 g n cap w0 w cur acts) (hgb : w0.heap.size ≤ g) (hb4 : w0.heap.size ≤ b4) (hC : Kd.C (Kd.int .u8) w0 SA set_.length set_) (hn : n = set_.length) (hl : n ≤ 100) (ha : acts.length = 0) (hw : (Lit.int .i64 c0).wf = true)
    (hent : ∀ (args : Array Value) (W : World), (callFunc FA args).run Try.prog W = .ok (.enter FA args) W)
    (hask : ∀ (x : Int) (W : World), 0 ≤ x → x < n → Below w0.heap.size w0 W → Calls Try.prog FA #[.int .i64 x, q1, q2] W fun e w' => e = .returned (.bool (A x)) ∧ Drawn0 W w') :
    Calls Try.prog 178 #[.slice (some ⟨g, 0, none⟩) n cap, .func (.func FA) #[] #[q1, q2], .func (.func 179) #[] #[.pointer (some ⟨b1, 0, none⟩), .pointer (some ⟨b2, 0, none⟩), .pointer (some ⟨b3, 0, none⟩), .pointer (some ⟨b4, 0, none⟩)]] w fun e w' => ∃ m : Int, e = .returned (.int .i64 m) ∧ EI c0 c1 c2 c3 c4 c5 pr set_ SA sc b1 b2 b3 b4 g n cap w0 w' (eachF A (mkAct c0 c1 c2 c3 c4 c5 pr) set_ n 0 cur acts).1 (eachF A (mkAct c0 c1 c2 c3 c4 c5 pr) set_ n 0 cur acts).2 := by
  have HI := Aside0.mk h
  have HGB := Aside0.mk hgb
  have HB4 := Aside0.mk hb4
  have HC := Aside0.mk hC
  have HN := Aside0.mk hn
  have HL := Aside0.mk hl
  have HAL := Aside0.mk ha
  have HWF := Aside0.mk hw
  have HASK := Aside0.mk hask
  clear h hgb hb4 hC hn hl ha hw hask
  go_enter Try.func178, Try.ntmps178
  go_wp2
  go_loopg [6, 10] (n + 1) (fun kq v6 v10 w' => ∃ (x cnt : Int) (m : Nat) (cu : List Int) (ac : List Act_), v6 = .int .i64 cnt ∧ v10 = .int .i64 x ∧ Aside0 ((0 ≤ x ∧ x + m = n ∧ kq = m + 1) ∧ (0 ≤ cnt ∧ cnt ≤ x) ∧ ac.length ≤ x.toNat) ∧ Aside0 (eachF A (mkAct c0 c1 c2 c3 c4 c5 pr) set_ n 0 cur acts = eachF A (mkAct c0 c1 c2 c3 c4 c5 pr) set_ m x cu ac) ∧ Aside0 (EI c0 c1 c2 c3 c4 c5 pr set_ SA sc b1 b2 b3 b4 g n cap w0 w' cu ac))
  case atStart => exact ⟨0, 0, n, cur, acts, rfl, rfl, ⟨by have := HAL.out; omega⟩, ⟨rfl⟩, HI⟩
  case round =>
    obtain ⟨x, cnt, m, cu, ac, rfl, rfl, HX, HE, HI2⟩ := hrel
    clear HI
    rcases m with _ | m
    · have k1 : decide (x < (n : Int)) = false := decide_eq_false (by have := HX.out; omega)
      go_wp2
      go_ret
      refine ⟨_, rfl, ?_⟩
      rw [HE.out]
      exact HI2.out
    · have k1 : decide (x < (n : Int)) = true := decide_eq_true (by have := HX.out; omega)
      have HW : Aside0 (wrap64 (x + 1) = x + 1) := ⟨w64_id (by have := HX.out; omega) (by have := HX.out; have := HL.out; omega)⟩
      cases hax : A x with
      | false =>
        have HE2 : Aside0 (eachF A (mkAct c0 c1 c2 c3 c4 c5 pr) set_ (m + 1) x cu ac = eachF A (mkAct c0 c1 c2 c3 c4 c5 pr) set_ m (x + 1) cu ac) := ⟨by simp [eachF, hax]⟩
        have HAX := Aside0.mk hax
        clear hax
        go_wp2_with fail
        refine (HASK.out x wr HX.out.1.1 (by have := HX.out; omega) HI2.out.below).mono ?_
        rw [HAX.out]
        rintro e w2 ⟨rfl, ⟨nd, rfl⟩⟩
        go_wp2
        go_roundg (gk - 1)
        case measure => have := HX.out.1; omega
        case rel => exact ⟨_, _, m, cu, ac, rfl, rfl, ⟨by rw [HW.out]; have := HX.out; omega⟩, ⟨by rw [HW.out, HE.out, HE2.out]⟩, ⟨HI2.out.drewN nd⟩⟩
      | true =>
        have HE2 : Aside0 (eachF A (mkAct c0 c1 c2 c3 c4 c5 pr) set_ (m + 1) x cu ac = eachF A (mkAct c0 c1 c2 c3 c4 c5 pr) set_ m (x + 1) (cu.set x.toNat (rd set_ x)) (ac ++ [mkAct c0 c1 c2 c3 c4 c5 pr x (rd set_ x)])) := ⟨by simp [eachF, hax]⟩
        have HAX := Aside0.mk hax
        have HWc : Aside0 (wrap64 (cnt + 1) = cnt + 1) := ⟨w64_id (by have := HX.out; omega) (by have := HX.out; have := HL.out; omega)⟩
        clear hax
        go_wp2_with fail
        refine (HASK.out x wr HX.out.1.1 (by have := HX.out; omega) HI2.out.below).mono ?_
        rw [HAX.out]
        rintro e w2 ⟨rfl, ⟨nd, rfl⟩⟩
        have HI3 := Aside0.mk (HI2.out.drewN nd)
        go_wp2_with fail
        obtain ⟨v, hv, hS⟩ := HI3.out.lst
        have HV := Aside0.mk hv
        have HS := Aside0.mk hS
        clear hv hS
        refine (turn_any c0 c1 c2 c3 c4 c5 pr x (rd set_ x) (planS c0 c1 c2 c3 c4 c5 pr x (rd set_ x)).1 (planS c0 c1 c2 c3 c4 c5 pr x (rd set_ x)).2.2 (planS c0 c1 c2 c3 c4 c5 pr x (rd set_ x)).2.1 set_ b1 b2 b3 b4 g SA sc v ac w0 _ HI3.out.below HB4.out (blk_lt HI3.out.blk_g.choose_spec) HI3.out.cfg HI3.out.pair_ HI3.out.set_ HV.out HC.out HX.out.1.1 (by have := HX.out; have := HN.out; omega) rfl HS.out (by have := HX.out; have := HL.out; omega) HWF.out rfl).mono ?_
        rintro e w3 ⟨v1, rfl, hv1, hS1, hkb, hbl⟩
        have HI4 := Aside0.mk (HI3.out.turned HV.out HS.out hv1 hS1 hkb hbl)
        clear hv1 hS1 hkb hbl
        obtain ⟨hc0, hf0⟩ := Kd.R_celln 0 HI4.out.out x HX.out.1.1 (by have := HX.out; omega)
        have HI5 := Aside0.mk (HI4.out.stored x (rd set_ x) HGB.out)
        have k2 : decide (0 ≤ x) = true := decide_eq_true HX.out.1.1
        have p1 := eq_true HX.out.1.1
        have q1 : (x < (n : Int)) = True := eq_true (by have := HX.out; omega)
        go_wp2
        go_roundg (gk - 1)
        case measure => have := HX.out.1; omega
        case rel => exact ⟨_, _, m, _, _, rfl, rfl, ⟨by rw [HW.out, HWc.out, List.length_append, List.length_singleton]; have := HX.out; omega⟩, ⟨by rw [HW.out, HE.out, HE2.out]; rfl⟩, HI5⟩
end Go.Proofs.Ytpbnppeodoflcaa.E
end
section
namespace Go.Proofs.Ytpbnppeodoflcaa.E
open Go.RowKit Go.Proofs.YtpbnppeodoflcaaW.PrintWords Go.Proofs.YtpbnppeodoflcaaW.PrintLast Go.Proofs.YtpbnppeodoflcaaW.PrintMore Go.Proofs.Ytpbnppeodoflcaa.K
set_option linter.unusedVariables false
set_option linter.unusedSimpArgs false
theorem nil_of_C {α : Type} {d : Kd α} {w : World} {n : Nat} {l : List α} (h : d.C w none n l) : l = [] := by
  rcases Nat.eq_zero_or_pos n with h0 | h0
  · exact List.eq_nil_of_length_eq_zero (h.1.trans h0)
  · obtain ⟨ad, c, e, _⟩ := Kd.C_get h (Classical.choice (by
      rcases l with _ | ⟨x, l⟩
      · exact absurd h.1 (by simp; omega)
      · exact ⟨x⟩)) 0 (by omega) (by omega)
    cases e
def slices_Clone.f (a0 : List Int) : Option (List Int) := if a0.length < 140737488355328 then some a0 else none
set_option maxHeartbeats 800000 in
set_option maxRecDepth 100000 in
theorem slices_Clone.calls (A0 : Option Addr) (c0 : Nat) (l0 : List Int) (r : List Int) (w : World) (hr0 : Kd.C (Kd.int .u8) w A0 l0.length l0) (hc0 : l0.length ≤ c0) (h : slices_Clone.f l0 = some r) :
    Calls Try.prog 105 #[.slice A0 l0.length c0] w fun e w' => ∃ v0_ : Value, e = .returned (v0_) ∧ Kd.R (Kd.int .u8) 5 w' w.heap.size (fun _ => True) v0_ r ∧ Below w.heap.size w w' := by
  unfold slices_Clone.f at h
  by_cases hl : l0.length < 140737488355328
  · rw [if_pos hl] at h
    obtain rfl := Option.some.inj h
    rcases A0 with _ | ad
    · obtain rfl := nil_of_C hr0
      have hs := fun W : World => Lib.run_eql_slice_nil (P := Try.prog) W 24 5 none 0 c0 0 0 Try.underlying24
      go_enter Try.func105, Try.ntmps105
      go_wp2
      go_ret
      exact ⟨_, rfl, Kd.R_nil _ _ _ _ _, Below.refl _ _⟩
    · have hs := fun W : World => Lib.run_eql_slice_nil (P := Try.prog) W 24 5 (some ad) l0.length c0 0 0 Try.underlying24
      have HL := Aside0.mk hl
      clear hl h
      have HR := Aside0.mk hr0
      clear hr0
      go_enter Try.func105, Try.ntmps105
      have HO : Kd.R (Kd.int .u8) 5 (w.alloc (.cells #[] 5)) w.heap.size (fun _ => True) (.slice (some ⟨w.heap.size, 0, none⟩) 0 0) ([] : List Int) :=
        Kd.R_of_own (own_lit_of (enc := Value.int .u8) w w.heap.size 5 [] (Nat.le_refl _) (by simp)) (fun _ _ => trivial)
      have HR2 := Aside0.mk (Kd.C_below HR.out ((Below.refl w.heap.size w).alloc (Nat.le_refl _) (.cells #[] 5)))
      have HB := Aside0.mk ((Below.refl w.heap.size w).alloc (Nat.le_refl _) (.cells #[] 5))
      have HO2 := Aside0.mk HO
      clear HO
      go_wp2_with (at_builtin; refine Kd.R_append_row (w0 := w) (Value.int .u8) (0 : Int) w.heap.size rfl _ _ 24 5 (.int .u8 0) 1 rfl Try.underlying24 info5 rfl (by decide) (.slice (some ⟨w.heap.size, 0, none⟩) 0 0) [] l0 (some ad) l0.length c0 (fun _ => True) rfl rfl (fun _ _ => trivial) HO2.out HR2.out HB.out (by simp) (by have := HL.out; simp; omega) ?_; intro v1 w1 hR hB hg hat; have HR3 := Aside0.mk hR; have HB3 := Aside0.mk hB; clear hR hB hg hat)
      go_ret
      exact ⟨_, rfl, HR3.out, HB3.out⟩
  · rw [if_neg hl] at h
    exact absurd h (by simp)
end Go.Proofs.Ytpbnppeodoflcaa.E
end
section
namespace Go.Proofs.Ytpbnppeodoflcaa.E
open Go.RowKit Go.Proofs.Ytpbnppeodoflcaa.PDf Go.Proofs.Ytpbnppeodoflcaa.Pure Go.Proofs.YtpbnppeodoflcaaW.PrintWords Go.Proofs.YtpbnppeodoflcaaW.PrintLast Go.Proofs.YtpbnppeodoflcaaW.PrintMore
set_option linter.unusedVariables false
set_option linter.unusedSimpArgs false
def eachS (A : Int → Bool) (c0 c1 c2 c3 c4 c5 pr : Int) (marks set_ : List Int) : List Int × List Act_ := eachF A (mkAct c0 c1 c2 c3 c4 c5 pr) set_ marks.length 0 marks []
def anewS (A : Int → Bool) (c0 c1 c2 c3 c4 c5 pr : Int) (marks set_ : List Int) : List Int × List Act_ := ((eachS A c0 c1 c2 c3 c4 c5 pr marks set_).1, flushS (eachS A c0 c1 c2 c3 c4 c5 pr marks set_).2)
theorem eachF_len (A : Int → Bool) (mk : Int → Int → Act_) (set_ : List Int) : ∀ (m : Nat) (i : Int) (cur : List Int) (acts : List Act_), (eachF A mk set_ m i cur acts).2.length ≤ acts.length + m
  | 0, _, _, _ => by simp [eachF]
  | m + 1, i, cur, acts => by
    unfold eachF
    split
    · have := eachF_len A mk set_ m (i + 1) (cur.set i.toNat (rd set_ i)) (acts ++ [mk i (rd set_ i)])
      simp at this
      omega
    · have := eachF_len A mk set_ m (i + 1) cur acts
      omega
theorem flush_any (w0 w : World) (u : FrameMode) (b4 g : Nat) (acts : List Act_) (h : LSt w0 w b4 g acts) (hl : acts.length ≤ 1000) (hb : Below w0.heap.size w0 w) (hb4 : w0.heap.size ≤ b4) (hg : g < w.heap.size) (hne : g ≠ b4) :
    CallsD Try.prog 177 #[.pointer (some ⟨b4, 0, none⟩)] u w (FlushPost w0 w u b4 g acts) := by
  by_cases ha : acts.length = 0
  · exact flush_none w0 w u b4 g acts h ha hb
  · exact flush_some w0 w u b4 g acts h (by omega) hl hb hb4 hg hne
theorem LSt.same {w0 W : World} {b4 g : Nat} {acts : List Act_} {v : Value} (hv : W.heap[b4]? = some (.cells #[v] 118 (0, 0))) (hS : Kd.S k136 136 W w0.heap.size (fun k => k ≠ g) v acts) : LSt w0 (W.setCell ⟨b4, 0, none⟩ v) b4 g acts :=
  ⟨v, blk_put (cs' := #[v]) hv 0 v rfl, Kd.S_set hS hv (by decide) 0 v⟩
set_option maxHeartbeats 8000000 in
set_option maxRecDepth 100000 in
theorem anew_any (c0 c1 c2 c3 c4 c5 pr : Int) (marks set_ : List Int) (MA SA : Option Addr) (mc sc : Nat) (w : World) (A : Int → Bool) (FA : FuncId) (q1 q2 : Value)
    (hM : Kd.C (Kd.int .u8) w MA marks.length marks) (hMc : marks.length ≤ mc) (hC : Kd.C (Kd.int .u8) w SA set_.length set_) (hn : marks.length = set_.length) (h1 : 0 < marks.length) (hl : marks.length ≤ 100) (hw : (Lit.int .i64 c0).wf = true)
    (hent : ∀ (args : Array Value) (W : World), (callFunc FA args).run Try.prog W = .ok (.enter FA args) W)
    (hask : ∀ (x : Int) (W : World), 0 ≤ x → x < marks.length → Below w.heap.size w W → Calls Try.prog FA #[.int .i64 x, q1, q2] W fun e w' => e = .returned (.bool (A x)) ∧ Drawn0 W w') :
    Calls Try.prog 133 #[.agg #[.int .i64 c0, .int .i64 c1, .int .i64 c2, .int .i64 c3, .int .i64 c4, .int .i64 c5], .int .i64 pr, .slice MA marks.length mc, .slice SA set_.length sc, .func (.func FA) #[] #[q1, q2]] w fun e w' => ∃ v0_ v1_ : Value, e = .returned (.tuple #[v0_, v1_, .int .i64 0]) ∧ Kd.R (Kd.int .u8) 5 w' w.heap.size (fun _ => True) v0_ (anewS A c0 c1 c2 c3 c4 c5 pr marks set_).1 ∧ Kd.S k136 136 w' w.heap.size (fun k_ => some k_ ≠ (v0_ : Value).ownBlock) v1_ (anewS A c0 c1 c2 c3 c4 c5 pr marks set_).2 ∧ Below w.heap.size w w' := by
  have hmf : ∀ (fn : Fn) (first cap : Array Value) (w : World), (Instr.makeFunc fn first cap).run Try.prog w = .ok (.func fn first cap) w := fun _ _ _ _ => rfl
  have HM := Aside0.mk hM
  have HMc := Aside0.mk hMc
  have HC := Aside0.mk hC
  have HN := Aside0.mk hn
  have HL := Aside0.mk hl
  have H1 := Aside0.mk h1
  have HWF := Aside0.mk hw
  have HENT := Aside0.mk hent
  have HASK := Aside0.mk hask
  clear hM hMc hC hn h1 hl hw hent hask
  go_enter_defers Try.func133, Try.ntmps133
  go_wp2_with fail
  have h1 := blk_alloc (blk_alloc (blk_alloc (heap_alloc_new w (.cells #[.int .i64 c0, .int .i64 c1, .int .i64 c2, .int .i64 c3, .int .i64 c4, .int .i64 c5] 23)) (.cells #[.int .i64 pr] 3)) (.cells #[.slice SA set_.length sc] 24)) (.cells #[.slice none 0 0] 118)
  have h2 := blk_alloc (blk_alloc (heap_alloc_new (w.alloc (.cells #[.int .i64 c0, .int .i64 c1, .int .i64 c2, .int .i64 c3, .int .i64 c4, .int .i64 c5] 23)) (.cells #[.int .i64 pr] 3)) (.cells #[.slice SA set_.length sc] 24)) (.cells #[.slice none 0 0] 118)
  have h3 := blk_alloc (heap_alloc_new ((w.alloc (.cells #[.int .i64 c0, .int .i64 c1, .int .i64 c2, .int .i64 c3, .int .i64 c4, .int .i64 c5] 23)).alloc (.cells #[.int .i64 pr] 3)) (.cells #[.slice SA set_.length sc] 24)) (.cells #[.slice none 0 0] 118)
  have h4 := heap_alloc_new (((w.alloc (.cells #[.int .i64 c0, .int .i64 c1, .int .i64 c2, .int .i64 c3, .int .i64 c4, .int .i64 c5] 23)).alloc (.cells #[.int .i64 pr] 3)).alloc (.cells #[.slice SA set_.length sc] 24)) (.cells #[.slice none 0 0] 118)
  have hB4 := below_alloc (below_alloc (below_alloc (below_alloc (Below.refl w.heap.size w) (.cells #[.int .i64 c0, .int .i64 c1, .int .i64 c2, .int .i64 c3, .int .i64 c4, .int .i64 c5] 23)) (.cells #[.int .i64 pr] 3)) (.cells #[.slice SA set_.length sc] 24)) (.cells #[.slice none 0 0] 118)
  simp only [World.size_alloc] at h1 h2 h3 h4
  generalize (((w.alloc (.cells #[.int .i64 c0, .int .i64 c1, .int .i64 c2, .int .i64 c3, .int .i64 c4, .int .i64 c5] 23)).alloc (.cells #[.int .i64 pr] 3)).alloc (.cells #[.slice SA set_.length sc] 24)).alloc (.cells #[.slice none 0 0] 118) = W4 at h1 h2 h3 h4 hB4 ⊢
  refine (slices_Clone.calls MA mc marks marks W4 (Kd.C_below HM.out hB4) HMc.out (by unfold slices_Clone.f; rw [if_pos (by have := HL.out; omega)])).mono ?_
  rintro e w5 ⟨v0, rfl, hr, hb⟩
  obtain ⟨g, cap, e1, hg, hg2, cells, hcells⟩ := Kd.R_form hr H1.out
  subst e1
  have HGB : Aside0 (w.heap.size ≤ g) := ⟨Nat.le_trans hB4.size hg⟩
  have HI := Aside0.mk (EI.mk (below_step hB4 hb) (blk_below h1 hb) (blk_below h2 hb) (blk_below h3 hb) ⟨.slice none 0 0, blk_below h4 hb, Kd.S_nil _ _ _ _ _⟩ (Kd.R_flat (fun h => h) (Kd.R_lower hr hB4.size) (fun k hk _ => by simpa [Value.ownBlock] using hk.symm)) : EI c0 c1 c2 c3 c4 c5 pr set_ SA sc w.heap.size (w.heap.size + 1) (w.heap.size + 1 + 1) (w.heap.size + 1 + 1 + 1) g marks.length cap w w5 marks [])
  clear h1 h2 h3 h4 hB4 hr hb hg hg2 hcells
  have hent := HENT.out
  go_wp2_with fail
  refine (each_any c0 c1 c2 c3 c4 c5 pr set_ SA sc w.heap.size (w.heap.size + 1) (w.heap.size + 1 + 1) (w.heap.size + 1 + 1 + 1) g marks.length cap w w5 marks [] A FA q1 q2 HI.out HGB.out (by omega) HC.out HN.out HL.out rfl HWF.out hent HASK.out).mono ?_
  rintro e w6 ⟨m, rfl, hI⟩
  have HI6 := Aside0.mk hI
  clear hI hent
  obtain ⟨v, hv, hS⟩ := HI6.out.lst
  obtain ⟨Av, cv, ev⟩ := Kd.S_slice hS
  subst ev
  have m4 := (blk_cell hv 0).trans rfl
  have f4 := blk_frozen hv 0
  have HL7 := Aside0.mk ((LSt.same hv hS).below (below_drew (Below.refl _ _)))
  have HO7 := Aside0.mk (Kd.R_drew (Kd.R_set HI6.out.out hv (by decide) 0 (.slice Av (eachF A (mkAct c0 c1 c2 c3 c4 c5 pr) set_ marks.length 0 marks []).2.length cv)))
  have HB7 := Aside0.mk (below_drew (below_set (j := 0) (v := .slice Av (eachF A (mkAct c0 c1 c2 c3 c4 c5 pr) set_ marks.length 0 marks []).2.length cv) HI6.out.below (show w.heap.size ≤ w.heap.size + 1 + 1 + 1 by omega)))
  have HNE : Aside0 (g ≠ w.heap.size + 1 + 1 + 1) := ⟨blk_ne HI6.out.blk_g.choose_spec hv (by decide)⟩
  have HGL : Aside0 (g < w6.heap.size) := ⟨blk_lt HI6.out.blk_g.choose_spec⟩
  clear hv hS
  go_wp2
  go_region
  go_wp2
  refine leaves_cons (f := 177) (args := #[.pointer (some ⟨w.heap.size + 1 + 1 + 1, 0, none⟩)]) (by simp) (by simp [go_sem]) ?_
  refine (flush_any w _ _ (w.heap.size + 1 + 1 + 1) g (eachF A (mkAct c0 c1 c2 c3 c4 c5 pr) set_ marks.length 0 marks []).2 HL7.out (by have := eachF_len A (mkAct c0 c1 c2 c3 c4 c5 pr) set_ marks.length 0 marks []; have := HL.out; have e0 : ([] : List Act_).length = 0 := rfl; omega) HB7.out (by omega) (by show g < (World.setCell _ _ _).heap.size; rw [World.size_setCell]; exact HGL.out) HNE.out).mono ?_
  rintro e u' w8 ⟨rfl, rfl, hl8, hb8, hg8⟩
  obtain ⟨v8, hv8, hS8⟩ := hl8
  obtain ⟨A8, c8, e8⟩ := Kd.S_slice hS8
  subst e8
  have m8 : w8.cell? ⟨w.heap.size + 1 + 1 + 1, 0, none⟩ = some (.slice A8 (flushS (eachF A (mkAct c0 c1 c2 c3 c4 c5 pr) set_ marks.length 0 marks []).2).length c8) := (blk_cell hv8 0).trans rfl
  have hO8 : Kd.R (Kd.int .u8) 5 w8 w.heap.size (fun k => k = g) (.slice (some ⟨g, 0, none⟩) marks.length cap) (eachF A (mkAct c0 c1 c2 c3 c4 c5 pr) set_ marks.length 0 marks []).1 := Kd.R_step HO7.out (fun k e hlt => by subst e; exact hg8)
  refine ⟨.tuple #[.slice (some ⟨g, 0, none⟩) marks.length cap, .slice A8 (flushS (eachF A (mkAct c0 c1 c2 c3 c4 c5 pr) set_ marks.length 0 marks []).2).length c8, .int .i64 0], by simp [results, Try.results133, go_sem, m8], _, _, rfl, Kd.R_mono hO8 (fun _ _ => trivial), ?_, hb8⟩
  exact Kd.S_mono hS8 (fun k hk e => hk (by simpa [Value.ownBlock] using e))
end Go.Proofs.Ytpbnppeodoflcaa.E
end
section
namespace Go.Proofs.Ytpbnppeodoflcaa.E
open Go.RowKit Go.Proofs.Ytpbnppeodoflcaa.PDf Go.Proofs.Ytpbnppeodoflcaa.Pure Go.Proofs.YtpbnppeodoflcaaW.PrintWords Go.Proofs.YtpbnppeodoflcaaW.PrintLast Go.Proofs.YtpbnppeodoflcaaW.PrintMore
set_option linter.unusedVariables false
set_option linter.unusedSimpArgs false
def askC (s m : List Int) (i : Int) : Bool := rd s i != rd m i
set_option maxHeartbeats 800000 in
set_option maxRecDepth 100000 in
theorem ask_clean (i : Int) (A1 A2 : Option Addr) (c1 c2 : Nat) (l1 l2 : List Int) (b1 b2 : Nat) (w : World) (h1 : w.cell? ⟨b1, 0, none⟩ = some (.slice A1 l1.length c1)) (h2 : w.cell? ⟨b2, 0, none⟩ = some (.slice A2 l2.length c2))
    (hr1 : Kd.C (Kd.int .u8) w A1 l1.length l1) (hr2 : Kd.C (Kd.int .u8) w A2 l2.length l2) (h0 : 0 ≤ i) (hl1 : i < l1.length) (hl2 : i < l2.length) :
    Calls Try.prog 134 #[.int .i64 i, .pointer (some ⟨b1, 0, none⟩), .pointer (some ⟨b2, 0, none⟩)] w fun e w' => e = .returned (.bool (askC l1 l2 i)) ∧ Drawn0 w w' := by
  obtain ⟨ad1, e1, hx1⟩ := Kd.at_int hr1 i h0 hl1
  obtain ⟨ad2, e2, hx2⟩ := Kd.at_int hr2 i h0 hl2
  subst e1 e2
  have HR1 := Aside0.mk hr1
  have k0 : decide (0 ≤ i) = true := decide_eq_true h0
  clear hr1 hr2
  go_enter Try.func134, Try.ntmps134
  go_wp2
  go_quiet (fail)
  go_wp2
  go_ret
  exact ⟨rfl, by repeat (first | exact Drawn0.refl _ | apply Drawn0.step)⟩
set_option maxHeartbeats 800000 in
set_option maxRecDepth 100000 in
theorem ask_fill (i : Int) (A1 A2 : Option Addr) (c1 c2 : Nat) (l1 l2 : List Int) (b1 b2 : Nat) (w : World) (h1 : w.cell? ⟨b1, 0, none⟩ = some (.slice A1 l1.length c1)) (h2 : w.cell? ⟨b2, 0, none⟩ = some (.slice A2 l2.length c2))
    (hr1 : Kd.C (Kd.int .u8) w A1 l1.length l1) (hr2 : Kd.C (Kd.int .u8) w A2 l2.length l2) (h0 : 0 ≤ i) (hl1 : i < l1.length) (hl2 : i < l2.length) :
    Calls Try.prog 137 #[.int .i64 i, .pointer (some ⟨b1, 0, none⟩), .pointer (some ⟨b2, 0, none⟩)] w fun e w' => e = .returned (.bool (askC l1 l2 i)) ∧ Drawn0 w w' := by
  obtain ⟨ad1, e1, hx1⟩ := Kd.at_int hr1 i h0 hl1
  obtain ⟨ad2, e2, hx2⟩ := Kd.at_int hr2 i h0 hl2
  subst e1 e2
  have HR1 := Aside0.mk hr1
  have k0 : decide (0 ≤ i) = true := decide_eq_true h0
  clear hr1 hr2
  go_enter Try.func137, Try.ntmps137
  go_wp2
  go_quiet (fail)
  go_wp2
  go_ret
  exact ⟨rfl, by repeat (first | exact Drawn0.refl _ | apply Drawn0.step)⟩
theorem enter_clean (args : Array Value) (W : World) : (callFunc 134 args).run Try.prog W = .ok (.enter 134 args) W := enters_ Try.func134 (by kernel_rfl) rfl args W
theorem enter_fill (args : Array Value) (W : World) : (callFunc 137 args).run Try.prog W = .ok (.enter 137 args) W := enters_ Try.func137 (by kernel_rfl) rfl args W
/-- What two sets have, byte by byte. -/
def andTo (a b : List Int) (m : Nat) : List Int := (List.range m).map fun i => Go.bits .and .u8 (a.getD i 0) (b.getD i 0)
def bothS (a b : List Int) : List Int := andTo a b a.length
theorem andTo_length (a b : List Int) (m : Nat) : (andTo a b m).length = m := by simp [andTo]
set_option maxHeartbeats 8000000 in
set_option maxRecDepth 100000 in
theorem both_any (A1 A2 : Option Addr) (c1 c2 : Nat) (l1 l2 : List Int) (w : World) (hr1 : Kd.C (Kd.int .u8) w A1 l1.length l1) (hc1 : l1.length ≤ c1) (hr2 : Kd.C (Kd.int .u8) w A2 l2.length l2) (hl : l1.length ≤ l2.length) (hp : 0 < l1.length) (hm : l1.length ≤ 1000) :
    Calls Try.prog 132 #[.slice A1 l1.length c1, .slice A2 l2.length c2] w fun e w' => ∃ v0_ : Value, e = .returned v0_ ∧ Kd.R (Kd.int .u8) 5 w' w.heap.size (fun _ => True) v0_ (bothS l1 l2) ∧ Below w.heap.size w w' := by
  have HR2 := Aside0.mk hr2
  have HL := Aside0.mk hl
  have HM := Aside0.mk hm
  have HS := Aside0.mk (slices_Clone.calls A1 c1 l1 l1 w hr1 hc1 (by unfold slices_Clone.f; rw [if_pos (by omega)]))
  have HP := Aside0.mk hp
  clear hr1 hr2 hc1 hl hm hp
  go_enter Try.func132, Try.ntmps132
  go_wp2_with fail
  refine (HS.out).mono ?_
  rintro e w1 ⟨v0, rfl, hr, hb⟩
  obtain ⟨g, cap, e1, hg, hg2, cells, hcells⟩ := Kd.R_form hr HP.out
  subst e1
  have HR := Aside0.mk hr
  have HB := Aside0.mk hb
  have HG := Aside0.mk hg
  clear hr hb hg hg2 hcells
  go_wp2
  go_loopg [11] (l1.length + 1) (fun kq v11 w' => ∃ x : Int, v11 = .int .i64 x ∧ Aside0 ((0 ≤ x ∧ x ≤ l1.length) ∧ x + kq = l1.length + 1) ∧ Aside0 (Kd.R (Kd.int .u8) 5 w' w.heap.size (fun _ => True) (.slice (some ⟨g, 0, none⟩) l1.length cap) (andTo l1 l2 x.toNat ++ l1.drop x.toNat)) ∧ Aside0 (Below w.heap.size w w'))
  case atStart => exact ⟨0, rfl, ⟨by omega⟩, HR, HB⟩
  case round =>
    clear HR HB
    obtain ⟨x, rfl, HX, HO, HB⟩ := hrel
    by_cases h1 : x < (l1.length : Int)
    · have k1 : decide (x < (l1.length : Int)) = true := decide_eq_true h1
      have k2 : decide (0 ≤ x) = true := decide_eq_true HX.out.1.1
      obtain ⟨hc0, hf0⟩ := Kd.R_celln 0 HO.out x HX.out.1.1 h1
      have hrd : rdOf 0 (andTo l1 l2 x.toNat ++ l1.drop x.toNat) x = rd l1 x := by
        unfold rdOf rd
        rw [List.getD_eq_getElem?_getD, List.getElem?_append_right (by rw [andTo_length]; omega), andTo_length, Nat.sub_self, List.getElem?_drop, Nat.add_zero, List.getD_eq_getElem?_getD]
      rw [hrd] at hc0
      obtain ⟨ad2, e2, hx2⟩ := Kd.at_int (Kd.C_below HR2.out HB.out) x HX.out.1.1 (by have := HL.out; omega)
      subst e2
      have HW : Aside0 (wrap64 (x + 1) = x + 1) := ⟨w64_id (by have := HX.out; omega) (by have := HX.out; have := HM.out; omega)⟩
      have hset : (andTo l1 l2 x.toNat ++ l1.drop x.toNat).set x.toNat (Go.bits .and .u8 (rd l1 x) (rd l2 x)) = andTo l1 l2 (x + 1).toNat ++ l1.drop (x + 1).toNat := by
        have hlt : x.toNat < l1.length := by have := HX.out; omega
        rw [List.set_append_right _ _ (by rw [andTo_length]; omega), andTo_length, Nat.sub_self, List.drop_eq_getElem_cons hlt, List.set_cons_zero, show (x + 1).toNat = x.toNat + 1 from by have := HX.out; omega]
        simp [andTo, List.range_succ, rd]
      have HSET := Aside0.mk hset
      have HO1 := Aside0.mk (Kd.R_drew (Kd.R_putn HO.out x (Go.bits .and .u8 (rd l1 x) (rd l2 x))))
      have Q1 := Aside0.mk h1
      have b1 : x < (l2.length : Int) := by have := HL.out; omega
      have p1 := eq_true HX.out.1.1
      have q1 := eq_true h1
      clear h1 hset hrd
      go_wp2
      go_region
      go_wp2
      go_roundg (gk - 1)
      case measure => have := HX.out.2; have := Q1.out; omega
      case rel => exact ⟨_, rfl, ⟨by rw [HW.out]; have := HX.out; have := Q1.out; omega⟩, ⟨by rw [HW.out, ← HSET.out]; exact HO1.out⟩, ⟨below_drew (below_set HB.out HG.out)⟩⟩
    · have k1 : decide (x < (l1.length : Int)) = false := decide_eq_false h1
      go_wp2
      go_ret
      refine ⟨_, rfl, ?_, HB.out⟩
      have h6 := HO.out
      rw [show x.toNat = l1.length from by have := HX.out; omega, List.drop_length, List.append_nil] at h6
      exact h6
end Go.Proofs.Ytpbnppeodoflcaa.E
end
section
namespace Go.Proofs.Ytpbnppeodoflcaa.E
open Go.RowKit Go.Proofs.YtpbnppeodoflcaaW.PrintWords Go.Proofs.YtpbnppeodoflcaaW.PrintLast Go.Proofs.YtpbnppeodoflcaaW.PrintMore Go.Proofs.Ytpbnppeodoflcaa.K
set_option linter.unusedVariables false
set_option linter.unusedSimpArgs false
theorem wf_u8 {x : Int} (h : (Lit.int .u8 x).wf = true) : 0 ≤ x ∧ x < 256 := by
  simp [Lit.wf, IntKind.bits, IntKind.signed, IntKind.min, IntKind.max] at h
  omega
theorem okB_wf {l : List Int} (h : ∀ x ∈ l, (Lit.int .u8 x).wf = true) : okB l = true :=
  List.all_eq_true.2 fun x hx => by have := wf_u8 (h x hx); simpa using this
end Go.Proofs.Ytpbnppeodoflcaa.E
end

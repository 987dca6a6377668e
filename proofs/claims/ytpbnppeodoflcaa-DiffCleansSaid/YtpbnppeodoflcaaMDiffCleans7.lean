/- Parts of the proof of DiffCleans, no condition: PDiffCleansx2, D15, OpenCfg. -/
import Derived.Test.YtpbnppeodoflcaaMDiffCleans6
import Derived.Below
import Derived.Deep.Draws
import Derived.Deep.AppendLies
import Derived.Maps.AppendAt
import Derived.OwnWalk
import Derived.Laws.BytesArg
import Derived.Laws.MakeOwn
import Derived.Laws.OwnMore
import Derived.Deep.OwnRows
import Derived.Tactics
import Derived.Lib.ConvBytes
import Derived.Laws.Slices
import Derived.WalkKit
import Derived.KernelRfl
import Derived.RowKit3
import Derived.Deep.LoopGhost
import Derived.Deep.QuietTactic
import Derived.BigQuiet
import Derived.WideLaws
import Derived.Deep.DeepCutAuto
import Derived.Deep.CutBlock
import Derived.Deep.RegionHeld3
import Derived.Laws.Rows
import Derived.Lib.AppendStr
import Derived.ArgAppend
import Derived.Laws.IdiomCopy
import Derived.RowKit
import Derived.OrdersHeld
import Derived.Laws.BitsLemmas
import Derived.Laws.StructEq
import Derived.Test.YtpbnppeodoflcaaProg
import Derived.WalkLawsBesides
import Derived.WalkSpells
import Derived.Outline
import Derived.Laws.CopyOwn
import Derived.LoopN
import Derived.Deep.RegionLaw
import Derived.RangeFuncNested
import Derived.RangeFuncBound
import Derived.RangeFuncCalls
import Derived.RangeFuncLeaves
import Derived.Shelf.Abstract
import Derived.Shelf.RegionOpen
import Derived.OwnWalkIn
import Derived.TacticsInMore
import Derived.LoopNIn
import Derived.LoopIn
import Derived.Defers
import Derived.RegionTactic
import Derived.BigRegion
import Derived.Lib.SliceRun
import Derived.ProofKit
import Derived.OpenShut
import Derived.ChangeOld
import Derived.ChangeArms
section
namespace Go.Proofs.Ytpbnppeodoflcaa.PDiffCleans
open Go.Proofs.Ytpbnppeodoflcaa.PDf
open Go.Proofs.Ytpbnppeodoflcaa.E
open Go.RowKit Go.Proofs.YtpbnppeodoflcaaW.PrintWords Go.Proofs.YtpbnppeodoflcaaW.PrintLast Go.Proofs.YtpbnppeodoflcaaW.PrintMore
attribute [local go_sem] max2_int min2_int max_two min_two max_three min_three max_four min_four   -- for this text's walks alone
set_option linter.unusedVariables false
set_option linter.unusedSimpArgs false
mutual
def catamaranlaw14_DiffCleans.j0 : Nat → Int → List Int → List Int → Bool → Int → Int → Int → Int → Int → Int → Option (Bool)
  | 0, _, _, _, _, _, _, _, _, _, _ => none
  | k + 1, x1, x2, x3, x33, x102000, x102001, x102002, x102003, x102004, x102005 => if x33 = true then (some true) else ((some (([] : List Int) : List Int)).bind fun y102 => (if y102.length + x2.length < 140737488355328 then ((some (y102 ++ x2 : List Int)).bind fun y105 => ((some (([] : List Int) : List Int)).bind fun y108 => (if y108.length + x3.length < 140737488355328 then ((some (y108 ++ x3 : List Int)).bind fun y111 => ((diff_Clean.f x102000 x102001 x102002 x102003 x102004 x102005 x1 y105 y111).bind fun bt114 => ((catamaranref14_Clean.f k x102000 x102001 x102002 x102003 x102004 x102005 x1 x2 x3).bind fun bt121 => ((diff_Fill.f x102000 x102001 x102002 x102003 x102004 x102005 x1 y105).bind fun bt128 => ((catamaranref14_Fill.f k x102000 x102001 x102002 x102003 x102004 x102005 x1 x2).bind fun bt135 => (if (strOfNums bt114.1).toList = (strOfNums bt121.1).toList then ((catamaranref12_SameActs.f k bt114.2.1 bt121.2.1).bind fun t142 => (if t142 = true then (if bt114.2.2 = bt121.2.2 then (if (strOfNums bt128.1).toList = (strOfNums bt135.1).toList then ((catamaranref12_SameActs.f k bt128.2.1 bt135.2.1).bind fun t143 => (if t143 = true then (catamaranlaw14_DiffCleans.j1 k x2 x3 y105 y111 bt114.1 bt128.1 (bt128.2.2 == bt135.2.2)) else (catamaranlaw14_DiffCleans.j1 k x2 x3 y105 y111 bt114.1 bt128.1 false))) else (catamaranlaw14_DiffCleans.j1 k x2 x3 y105 y111 bt114.1 bt128.1 false)) else (catamaranlaw14_DiffCleans.j1 k x2 x3 y105 y111 bt114.1 bt128.1 false)) else (catamaranlaw14_DiffCleans.j1 k x2 x3 y105 y111 bt114.1 bt128.1 false))) else (catamaranlaw14_DiffCleans.j1 k x2 x3 y105 y111 bt114.1 bt128.1 false))))))) else (none)))) else (none)))
def catamaranlaw14_DiffCleans.j1 : Nat → List Int → List Int → List Int → List Int → List Int → List Int → Bool → Option (Bool)
  | 0, _, _, _, _, _, _, _ => none
  | k + 1, x2, x3, x9, x10, x11, x17, x23 => catamaranlaw14_DiffCleans.l0 k x2 x3 x9 x10 x11 x17 x23 0
def catamaranlaw14_DiffCleans.l0 : Nat → List Int → List Int → List Int → List Int → List Int → List Int → Bool → Int → Option (Bool)
  | 0, _, _, _, _, _, _, _, _ => none
  | k + 1, x2, x3, x9, x10, x11, x17, x23, x24 => if x24 < (x11.length : Int) then (if 0 ≤ x24 then (catamaranlaw14_DiffCleans.l0 k x2 x3 x9 x10 (x11.set (x24 : Int).toNat (((rd x11 x24) + 1) % 256)) x17 x23 (wrap64 (x24 + 1))) else (none)) else (catamaranlaw14_DiffCleans.l1 k x2 x3 x9 x10 x17 x23 0)
def catamaranlaw14_DiffCleans.l1 : Nat → List Int → List Int → List Int → List Int → List Int → Bool → Int → Option (Bool)
  | 0, _, _, _, _, _, _, _ => none
  | k + 1, x2, x3, x9, x10, x17, x23, x25 => if x25 < (x17.length : Int) then (if 0 ≤ x25 then (catamaranlaw14_DiffCleans.l1 k x2 x3 x9 x10 (x17.set (x25 : Int).toNat (((rd x17 x25) + 1) % 256)) x23 (wrap64 (x25 + 1))) else (none)) else (if x23 = true then (if (strOfNums x9).toList = (strOfNums x2).toList then (some ((strOfNums x10).toList == (strOfNums x3).toList)) else (some false)) else (some false))
end
def catamaranlaw14_DiffCleans.f (k : Nat) (a0_0 : Int) (a0_1 : Int) (a0_2 : Int) (a0_3 : Int) (a0_4 : Int) (a0_5 : Int) (a1 : Int) (l2 : List Int) (l3 : List Int) : Option (Bool) := if (l2.length : Int) > 100 then (catamaranlaw14_DiffCleans.j0 k a1 l2 l3 true a0_0 a0_1 a0_2 a0_3 a0_4 a0_5) else (catamaranlaw14_DiffCleans.j0 k a1 l2 l3 (decide ((l3.length : Int) > 100)) a0_0 a0_1 a0_2 a0_3 a0_4 a0_5)
set_option maxHeartbeats 8000000 in
set_option maxRecDepth 100000 in
theorem catamaranlaw14_DiffCleans.calls (k : Nat) (a0_0 : Int) (a0_1 : Int) (a0_2 : Int) (a0_3 : Int) (a0_4 : Int) (a0_5 : Int) (a1 : Int) (A2 : Option Addr) (c2 : Nat) (l2 : List Int) (A3 : Option Addr) (c3 : Nat) (l3 : List Int) (r : Bool) (w : World) (hr2 : Kd.C (Kd.int .u8) w A2 l2.length l2) (hc2 : l2.length ≤ c2) (hr3 : Kd.C (Kd.int .u8) w A3 l3.length l3) (hc3 : l3.length ≤ c3) (h : catamaranlaw14_DiffCleans.f k a0_0 a0_1 a0_2 a0_3 a0_4 a0_5 a1 l2 l3 = some r) :
    Calls Try.prog 12 #[.agg #[.int .i64 a0_0, .int .i64 a0_1, .int .i64 a0_2, .int .i64 a0_3, .int .i64 a0_4, .int .i64 a0_5], .int .i64 a1, .slice A2 l2.length c2, .slice A3 l3.length c3] w fun e w' => e = .returned (.bool r) ∧ Below w.heap.size w w' := by
  have hu23 := Try.underlying23
  have HR2 := Aside0.mk hr2
  have HC2 := Aside0.mk hc2
  clear hr2 hc2
  have HR3 := Aside0.mk hr3
  have HC3 := Aside0.mk hc3
  clear hr3 hc3
  have HB := Aside0.mk (Below.refl w.heap.size w)
  have H : (if (l2.length : Int) > 100 then (catamaranlaw14_DiffCleans.j0 k a1 l2 l3 true a0_0 a0_1 a0_2 a0_3 a0_4 a0_5) else (catamaranlaw14_DiffCleans.j0 k a1 l2 l3 (decide ((l3.length : Int) > 100)) a0_0 a0_1 a0_2 a0_3 a0_4 a0_5)) = some r := h
  clear h
  have HC5 := Aside0.mk H
  clear H
  go_enter Try.func12, Try.ntmps12
  go_upto_region 1 with (first | ((with_reducible refine gate_dst (N := 4) rfl ?_); (try (refine gate_guard (by rfl) ?_; dsimp only)); refine box_event ?hg (N := 4) ?hd (cs := #[.int .i64 a0_0, .int .i64 a0_1, .int .i64 a0_2, .int .i64 a0_3, .int .i64 a0_4, .int .i64 a0_5]) (t := 23) ?hr ?_; (case hd => rfl); (case hg => rfl); (case hr => first | (go_simp; done) | (go_simp; rfl)); intro gb101 hg w6 hbox hb; have n0_ := Aside0.mk (below_step (by repeat (first | (with_reducible first | exact HB.out | apply below_alloc | apply pw_below_drewN | apply below_drew1) | exact HB.out)) hb); have n1_ := Aside0.mk (hbox); have n2_ := Aside0.mk ((by rw [hg]; exact (below_size (by repeat (first | (with_reducible first | exact HB.out | apply below_alloc | apply pw_below_drewN | apply below_drew1) | exact HB.out))) : w.heap.size ≤ gb101)); have n3_ := Aside0.mk ((by rw [hg]; exact (below_size (by repeat (first | (with_reducible first | exact HB.out | apply below_alloc | apply pw_below_drewN | apply below_drew1) | exact HB.out))) : w.heap.size ≤ gb101)); clear HB; have HB := n0_; have BK101 := n1_; have GW101 := n2_; have GE101 := n3_; clear n0_ n1_ n2_ n3_; clear hb hbox hg))
  (try simp only [Act.put, List.setIfInBounds_toArray, List.set_cons_zero, List.set_cons_succ])
  go_cut [33] (fun v33 wc => ∃ (kq : Nat) (x33_4 : Bool), v33 = .bool x33_4 ∧ Aside0 (catamaranlaw14_DiffCleans.j0 kq a1 l2 l3 x33_4 a0_0 a0_1 a0_2 a0_3 a0_4 a0_5 = some r) ∧ Aside0 (kq ≤ k) ∧ Aside0 (wc.heap[gb101]? = some (.cells #[.int .i64 a0_0, .int .i64 a0_1, .int .i64 a0_2, .int .i64 a0_3, .int .i64 a0_4, .int .i64 a0_5] 23 (0, 0))) ∧ Aside0 (Below w.heap.size w wc))
  case first =>
    have H := HC5.out
    clear HC5
    by_cases c7 : (l2.length : Int) > 100
    · rw [if_pos c7] at H
      have c7b0 : decide (100 < (l2.length : Int)) = true := decide_eq_true c7
      have c7b1 : decide (100 < l2.length) = true := decide_eq_true (by omega)
      clear c7
      (first | rw [c7b0] | (simp only [i64_w, i32_w]; rw [c7b0]) | skip)
      have H' := Aside0.mk H
      clear H
      go_wp2
      go_meet
      case rel => exact ⟨_, (true), (by first | rfl | (simp; done) | (simp [*]; done)), H', ⟨by first | omega | exact Nat.le_refl _⟩, ⟨by (with_reducible repeat (first | refine blk_drewN ?_ _ | refine blk_drew ?_ | refine blk_alloc ?_ _)); exact BK101.out⟩, ⟨by repeat (first | (with_reducible first | exact HB.out | apply below_alloc | apply pw_below_drewN | apply below_drew1 | refine below_set ?_ GE101.out) | exact HB.out)⟩⟩
    · rw [if_neg c7] at H
      have c7b0 : decide (100 < (l2.length : Int)) = false := decide_eq_false c7
      have c7b1 : decide (100 < l2.length) = false := decide_eq_false (by omega)
      clear c7
      (first | rw [c7b0] | (simp only [i64_w, i32_w]; rw [c7b0]) | skip)
      have H' := Aside0.mk H
      clear H
      go_wp2
      go_meet
      case rel => exact ⟨_, (decide ((l3.length : Int) > 100)), (by first | rfl | (simp; done) | (simp [*]; done)), H', ⟨by first | omega | exact Nat.le_refl _⟩, ⟨by (with_reducible repeat (first | refine blk_drewN ?_ _ | refine blk_drew ?_ | refine blk_alloc ?_ _)); exact BK101.out⟩, ⟨by repeat (first | (with_reducible first | exact HB.out | apply below_alloc | apply pw_below_drewN | apply below_drew1 | refine below_set ?_ GE101.out) | exact HB.out)⟩⟩
  case rest =>
    clear HC5
    try clear c1
    try clear c2
    try clear p2
    try clear c3
    try clear c7
    try clear c7b0
    try clear c7b1
    obtain ⟨kq, x33_4, rfl, HA, HJ4, BK101, HB⟩ := hcut
    cases kq with
    | zero => exact absurd HA.out (by simp [catamaranlaw14_DiffCleans.j0])
    | succ kj4 =>
      have H := HA.out
      clear HA
      simp only [catamaranlaw14_DiffCleans.j0] at H
      by_cases c8 : x33_4 = true
      · subst c8
        have H1 : (some true) = some r := by rw [if_pos rfl] at H; exact H
        clear H
        have H := H1
        clear H1
        obtain rfl := Option.some.inj H
        go_wp2
        go_ret
        exact ⟨by first | rfl | (simp [errW_none, errW_some] <;> rfl) | (simp [*, errW_none, errW_some] <;> rfl), by repeat (first | (with_reducible first | exact HB.out | apply below_alloc | apply pw_below_drewN | apply below_drew1 | refine below_set ?_ GE101.out) | exact HB.out)⟩
      · replace c8 := Bool.eq_false_iff.mpr c8
        subst c8
        have H1 : ((some (([] : List Int) : List Int)).bind fun y102 => (if y102.length + l2.length < 140737488355328 then ((some (y102 ++ l2 : List Int)).bind fun y105 => ((some (([] : List Int) : List Int)).bind fun y108 => (if y108.length + l3.length < 140737488355328 then ((some (y108 ++ l3 : List Int)).bind fun y111 => ((diff_Clean.f a0_0 a0_1 a0_2 a0_3 a0_4 a0_5 a1 y105 y111).bind fun bt114 => ((catamaranref14_Clean.f kj4 a0_0 a0_1 a0_2 a0_3 a0_4 a0_5 a1 l2 l3).bind fun bt121 => ((diff_Fill.f a0_0 a0_1 a0_2 a0_3 a0_4 a0_5 a1 y105).bind fun bt128 => ((catamaranref14_Fill.f kj4 a0_0 a0_1 a0_2 a0_3 a0_4 a0_5 a1 l2).bind fun bt135 => (if (strOfNums bt114.1).toList = (strOfNums bt121.1).toList then ((catamaranref12_SameActs.f kj4 bt114.2.1 bt121.2.1).bind fun t142 => (if t142 = true then (if bt114.2.2 = bt121.2.2 then (if (strOfNums bt128.1).toList = (strOfNums bt135.1).toList then ((catamaranref12_SameActs.f kj4 bt128.2.1 bt135.2.1).bind fun t143 => (if t143 = true then (catamaranlaw14_DiffCleans.j1 kj4 l2 l3 y105 y111 bt114.1 bt128.1 (bt128.2.2 == bt135.2.2)) else (catamaranlaw14_DiffCleans.j1 kj4 l2 l3 y105 y111 bt114.1 bt128.1 false))) else (catamaranlaw14_DiffCleans.j1 kj4 l2 l3 y105 y111 bt114.1 bt128.1 false)) else (catamaranlaw14_DiffCleans.j1 kj4 l2 l3 y105 y111 bt114.1 bt128.1 false)) else (catamaranlaw14_DiffCleans.j1 kj4 l2 l3 y105 y111 bt114.1 bt128.1 false))) else (catamaranlaw14_DiffCleans.j1 kj4 l2 l3 y105 y111 bt114.1 bt128.1 false))))))) else (none)))) else (none))) = some r := by rw [if_neg (show ¬ (false = true) by decide)] at H; exact H
        clear H
        have H := H1
        clear H1
        obtain ⟨y102, hy102⟩ : ∃ y_ : List Int, y_ = (([] : List Int)) := ⟨_, rfl⟩
        replace H : (if y102.length + l2.length < 140737488355328 then ((some (y102 ++ l2 : List Int)).bind fun y105 => ((some (([] : List Int) : List Int)).bind fun y108 => (if y108.length + l3.length < 140737488355328 then ((some (y108 ++ l3 : List Int)).bind fun y111 => ((diff_Clean.f a0_0 a0_1 a0_2 a0_3 a0_4 a0_5 a1 y105 y111).bind fun bt114 => ((catamaranref14_Clean.f kj4 a0_0 a0_1 a0_2 a0_3 a0_4 a0_5 a1 l2 l3).bind fun bt121 => ((diff_Fill.f a0_0 a0_1 a0_2 a0_3 a0_4 a0_5 a1 y105).bind fun bt128 => ((catamaranref14_Fill.f kj4 a0_0 a0_1 a0_2 a0_3 a0_4 a0_5 a1 l2).bind fun bt135 => (if (strOfNums bt114.1).toList = (strOfNums bt121.1).toList then ((catamaranref12_SameActs.f kj4 bt114.2.1 bt121.2.1).bind fun t142 => (if t142 = true then (if bt114.2.2 = bt121.2.2 then (if (strOfNums bt128.1).toList = (strOfNums bt135.1).toList then ((catamaranref12_SameActs.f kj4 bt128.2.1 bt135.2.1).bind fun t143 => (if t143 = true then (catamaranlaw14_DiffCleans.j1 kj4 l2 l3 y105 y111 bt114.1 bt128.1 (bt128.2.2 == bt135.2.2)) else (catamaranlaw14_DiffCleans.j1 kj4 l2 l3 y105 y111 bt114.1 bt128.1 false))) else (catamaranlaw14_DiffCleans.j1 kj4 l2 l3 y105 y111 bt114.1 bt128.1 false)) else (catamaranlaw14_DiffCleans.j1 kj4 l2 l3 y105 y111 bt114.1 bt128.1 false)) else (catamaranlaw14_DiffCleans.j1 kj4 l2 l3 y105 y111 bt114.1 bt128.1 false))) else (catamaranlaw14_DiffCleans.j1 kj4 l2 l3 y105 y111 bt114.1 bt128.1 false))))))) else (none)))) else (none)) = some r := by first | (rw [hy102]; with_reducible exact H) | (have H2_ := (Option.bind_some _ _).symm.trans H; rw [hy102]; with_reducible exact H2_) | (have H2_ := (Option.bind_some _ _).symm.trans H; with_reducible exact H2_) | with_reducible exact H | (rw [hy102]; exact H) | exact H
        have Ny102 := Aside0.mk hy102
        clear hy102
        by_cases c9 : y102.length + l2.length < 140737488355328
        · rw [if_pos c9] at H
          have LMc9 := Aside0.mk c9
          clear c9
          obtain ⟨y105, hy105⟩ : ∃ y_ : List Int, y_ = (y102 ++ l2) := ⟨_, rfl⟩
          replace H : ((some (([] : List Int) : List Int)).bind fun y108 => (if y108.length + l3.length < 140737488355328 then ((some (y108 ++ l3 : List Int)).bind fun y111 => ((diff_Clean.f a0_0 a0_1 a0_2 a0_3 a0_4 a0_5 a1 y105 y111).bind fun bt114 => ((catamaranref14_Clean.f kj4 a0_0 a0_1 a0_2 a0_3 a0_4 a0_5 a1 l2 l3).bind fun bt121 => ((diff_Fill.f a0_0 a0_1 a0_2 a0_3 a0_4 a0_5 a1 y105).bind fun bt128 => ((catamaranref14_Fill.f kj4 a0_0 a0_1 a0_2 a0_3 a0_4 a0_5 a1 l2).bind fun bt135 => (if (strOfNums bt114.1).toList = (strOfNums bt121.1).toList then ((catamaranref12_SameActs.f kj4 bt114.2.1 bt121.2.1).bind fun t142 => (if t142 = true then (if bt114.2.2 = bt121.2.2 then (if (strOfNums bt128.1).toList = (strOfNums bt135.1).toList then ((catamaranref12_SameActs.f kj4 bt128.2.1 bt135.2.1).bind fun t143 => (if t143 = true then (catamaranlaw14_DiffCleans.j1 kj4 l2 l3 y105 y111 bt114.1 bt128.1 (bt128.2.2 == bt135.2.2)) else (catamaranlaw14_DiffCleans.j1 kj4 l2 l3 y105 y111 bt114.1 bt128.1 false))) else (catamaranlaw14_DiffCleans.j1 kj4 l2 l3 y105 y111 bt114.1 bt128.1 false)) else (catamaranlaw14_DiffCleans.j1 kj4 l2 l3 y105 y111 bt114.1 bt128.1 false)) else (catamaranlaw14_DiffCleans.j1 kj4 l2 l3 y105 y111 bt114.1 bt128.1 false))) else (catamaranlaw14_DiffCleans.j1 kj4 l2 l3 y105 y111 bt114.1 bt128.1 false))))))) else (none))) = some r := by first | (rw [hy105]; with_reducible exact H) | (have H2_ := (Option.bind_some _ _).symm.trans H; rw [hy105]; with_reducible exact H2_) | (have H2_ := (Option.bind_some _ _).symm.trans H; with_reducible exact H2_) | with_reducible exact H | (rw [hy105]; exact H) | exact H
          have Ny105 := Aside0.mk hy105
          clear hy105
          obtain ⟨y108, hy108⟩ : ∃ y_ : List Int, y_ = (([] : List Int)) := ⟨_, rfl⟩
          replace H : (if y108.length + l3.length < 140737488355328 then ((some (y108 ++ l3 : List Int)).bind fun y111 => ((diff_Clean.f a0_0 a0_1 a0_2 a0_3 a0_4 a0_5 a1 y105 y111).bind fun bt114 => ((catamaranref14_Clean.f kj4 a0_0 a0_1 a0_2 a0_3 a0_4 a0_5 a1 l2 l3).bind fun bt121 => ((diff_Fill.f a0_0 a0_1 a0_2 a0_3 a0_4 a0_5 a1 y105).bind fun bt128 => ((catamaranref14_Fill.f kj4 a0_0 a0_1 a0_2 a0_3 a0_4 a0_5 a1 l2).bind fun bt135 => (if (strOfNums bt114.1).toList = (strOfNums bt121.1).toList then ((catamaranref12_SameActs.f kj4 bt114.2.1 bt121.2.1).bind fun t142 => (if t142 = true then (if bt114.2.2 = bt121.2.2 then (if (strOfNums bt128.1).toList = (strOfNums bt135.1).toList then ((catamaranref12_SameActs.f kj4 bt128.2.1 bt135.2.1).bind fun t143 => (if t143 = true then (catamaranlaw14_DiffCleans.j1 kj4 l2 l3 y105 y111 bt114.1 bt128.1 (bt128.2.2 == bt135.2.2)) else (catamaranlaw14_DiffCleans.j1 kj4 l2 l3 y105 y111 bt114.1 bt128.1 false))) else (catamaranlaw14_DiffCleans.j1 kj4 l2 l3 y105 y111 bt114.1 bt128.1 false)) else (catamaranlaw14_DiffCleans.j1 kj4 l2 l3 y105 y111 bt114.1 bt128.1 false)) else (catamaranlaw14_DiffCleans.j1 kj4 l2 l3 y105 y111 bt114.1 bt128.1 false))) else (catamaranlaw14_DiffCleans.j1 kj4 l2 l3 y105 y111 bt114.1 bt128.1 false))))))) else (none)) = some r := by first | (rw [hy108]; with_reducible exact H) | (have H2_ := (Option.bind_some _ _).symm.trans H; rw [hy108]; with_reducible exact H2_) | (have H2_ := (Option.bind_some _ _).symm.trans H; with_reducible exact H2_) | with_reducible exact H | (rw [hy108]; exact H) | exact H
          have Ny108 := Aside0.mk hy108
          clear hy108
          by_cases c10 : y108.length + l3.length < 140737488355328
          · rw [if_pos c10] at H
            have LMc10 := Aside0.mk c10
            clear c10
            obtain ⟨y111, hy111⟩ : ∃ y_ : List Int, y_ = (y108 ++ l3) := ⟨_, rfl⟩
            replace H : ((diff_Clean.f a0_0 a0_1 a0_2 a0_3 a0_4 a0_5 a1 y105 y111).bind fun bt114 => ((catamaranref14_Clean.f kj4 a0_0 a0_1 a0_2 a0_3 a0_4 a0_5 a1 l2 l3).bind fun bt121 => ((diff_Fill.f a0_0 a0_1 a0_2 a0_3 a0_4 a0_5 a1 y105).bind fun bt128 => ((catamaranref14_Fill.f kj4 a0_0 a0_1 a0_2 a0_3 a0_4 a0_5 a1 l2).bind fun bt135 => (if (strOfNums bt114.1).toList = (strOfNums bt121.1).toList then ((catamaranref12_SameActs.f kj4 bt114.2.1 bt121.2.1).bind fun t142 => (if t142 = true then (if bt114.2.2 = bt121.2.2 then (if (strOfNums bt128.1).toList = (strOfNums bt135.1).toList then ((catamaranref12_SameActs.f kj4 bt128.2.1 bt135.2.1).bind fun t143 => (if t143 = true then (catamaranlaw14_DiffCleans.j1 kj4 l2 l3 y105 y111 bt114.1 bt128.1 (bt128.2.2 == bt135.2.2)) else (catamaranlaw14_DiffCleans.j1 kj4 l2 l3 y105 y111 bt114.1 bt128.1 false))) else (catamaranlaw14_DiffCleans.j1 kj4 l2 l3 y105 y111 bt114.1 bt128.1 false)) else (catamaranlaw14_DiffCleans.j1 kj4 l2 l3 y105 y111 bt114.1 bt128.1 false)) else (catamaranlaw14_DiffCleans.j1 kj4 l2 l3 y105 y111 bt114.1 bt128.1 false))) else (catamaranlaw14_DiffCleans.j1 kj4 l2 l3 y105 y111 bt114.1 bt128.1 false)))))) = some r := by first | (rw [hy111]; with_reducible exact H) | (have H2_ := (Option.bind_some _ _).symm.trans H; rw [hy111]; with_reducible exact H2_) | (have H2_ := (Option.bind_some _ _).symm.trans H; with_reducible exact H2_) | with_reducible exact H | (rw [hy111]; exact H) | exact H
            have Ny111 := Aside0.mk hy111
            clear hy111
            replace H := Option.bind_eq_some_iff.mp H
            obtain ⟨⟨t114, t117, t120⟩, A110, H⟩ := H
            replace H : ((catamaranref14_Clean.f kj4 a0_0 a0_1 a0_2 a0_3 a0_4 a0_5 a1 l2 l3).bind fun bt121 => ((diff_Fill.f a0_0 a0_1 a0_2 a0_3 a0_4 a0_5 a1 y105).bind fun bt128 => ((catamaranref14_Fill.f kj4 a0_0 a0_1 a0_2 a0_3 a0_4 a0_5 a1 l2).bind fun bt135 => (if (strOfNums t114).toList = (strOfNums bt121.1).toList then ((catamaranref12_SameActs.f kj4 t117 bt121.2.1).bind fun t142 => (if t142 = true then (if t120 = bt121.2.2 then (if (strOfNums bt128.1).toList = (strOfNums bt135.1).toList then ((catamaranref12_SameActs.f kj4 bt128.2.1 bt135.2.1).bind fun t143 => (if t143 = true then (catamaranlaw14_DiffCleans.j1 kj4 l2 l3 y105 y111 t114 bt128.1 (bt128.2.2 == bt135.2.2)) else (catamaranlaw14_DiffCleans.j1 kj4 l2 l3 y105 y111 t114 bt128.1 false))) else (catamaranlaw14_DiffCleans.j1 kj4 l2 l3 y105 y111 t114 bt128.1 false)) else (catamaranlaw14_DiffCleans.j1 kj4 l2 l3 y105 y111 t114 bt128.1 false)) else (catamaranlaw14_DiffCleans.j1 kj4 l2 l3 y105 y111 t114 bt128.1 false))) else (catamaranlaw14_DiffCleans.j1 kj4 l2 l3 y105 y111 t114 bt128.1 false))))) = some r := H
            have A11 := Aside0.mk A110
            clear A110
            replace H := Option.bind_eq_some_iff.mp H
            obtain ⟨⟨t121, t124, t127⟩, A120, H⟩ := H
            replace H : ((diff_Fill.f a0_0 a0_1 a0_2 a0_3 a0_4 a0_5 a1 y105).bind fun bt128 => ((catamaranref14_Fill.f kj4 a0_0 a0_1 a0_2 a0_3 a0_4 a0_5 a1 l2).bind fun bt135 => (if (strOfNums t114).toList = (strOfNums t121).toList then ((catamaranref12_SameActs.f kj4 t117 t124).bind fun t142 => (if t142 = true then (if t120 = t127 then (if (strOfNums bt128.1).toList = (strOfNums bt135.1).toList then ((catamaranref12_SameActs.f kj4 bt128.2.1 bt135.2.1).bind fun t143 => (if t143 = true then (catamaranlaw14_DiffCleans.j1 kj4 l2 l3 y105 y111 t114 bt128.1 (bt128.2.2 == bt135.2.2)) else (catamaranlaw14_DiffCleans.j1 kj4 l2 l3 y105 y111 t114 bt128.1 false))) else (catamaranlaw14_DiffCleans.j1 kj4 l2 l3 y105 y111 t114 bt128.1 false)) else (catamaranlaw14_DiffCleans.j1 kj4 l2 l3 y105 y111 t114 bt128.1 false)) else (catamaranlaw14_DiffCleans.j1 kj4 l2 l3 y105 y111 t114 bt128.1 false))) else (catamaranlaw14_DiffCleans.j1 kj4 l2 l3 y105 y111 t114 bt128.1 false)))) = some r := H
            have A12 := Aside0.mk A120
            clear A120
            replace H := Option.bind_eq_some_iff.mp H
            obtain ⟨⟨t128, t131, t134⟩, A130, H⟩ := H
            replace H : ((catamaranref14_Fill.f kj4 a0_0 a0_1 a0_2 a0_3 a0_4 a0_5 a1 l2).bind fun bt135 => (if (strOfNums t114).toList = (strOfNums t121).toList then ((catamaranref12_SameActs.f kj4 t117 t124).bind fun t142 => (if t142 = true then (if t120 = t127 then (if (strOfNums t128).toList = (strOfNums bt135.1).toList then ((catamaranref12_SameActs.f kj4 t131 bt135.2.1).bind fun t143 => (if t143 = true then (catamaranlaw14_DiffCleans.j1 kj4 l2 l3 y105 y111 t114 t128 (t134 == bt135.2.2)) else (catamaranlaw14_DiffCleans.j1 kj4 l2 l3 y105 y111 t114 t128 false))) else (catamaranlaw14_DiffCleans.j1 kj4 l2 l3 y105 y111 t114 t128 false)) else (catamaranlaw14_DiffCleans.j1 kj4 l2 l3 y105 y111 t114 t128 false)) else (catamaranlaw14_DiffCleans.j1 kj4 l2 l3 y105 y111 t114 t128 false))) else (catamaranlaw14_DiffCleans.j1 kj4 l2 l3 y105 y111 t114 t128 false))) = some r := H
            have A13 := Aside0.mk A130
            clear A130
            replace H := Option.bind_eq_some_iff.mp H
            obtain ⟨⟨t135, t138, t141⟩, A140, H⟩ := H
            replace H : (if (strOfNums t114).toList = (strOfNums t121).toList then ((catamaranref12_SameActs.f kj4 t117 t124).bind fun t142 => (if t142 = true then (if t120 = t127 then (if (strOfNums t128).toList = (strOfNums t135).toList then ((catamaranref12_SameActs.f kj4 t131 t138).bind fun t143 => (if t143 = true then (catamaranlaw14_DiffCleans.j1 kj4 l2 l3 y105 y111 t114 t128 (t134 == t141)) else (catamaranlaw14_DiffCleans.j1 kj4 l2 l3 y105 y111 t114 t128 false))) else (catamaranlaw14_DiffCleans.j1 kj4 l2 l3 y105 y111 t114 t128 false)) else (catamaranlaw14_DiffCleans.j1 kj4 l2 l3 y105 y111 t114 t128 false)) else (catamaranlaw14_DiffCleans.j1 kj4 l2 l3 y105 y111 t114 t128 false))) else (catamaranlaw14_DiffCleans.j1 kj4 l2 l3 y105 y111 t114 t128 false)) = some r := H
            have A14 := Aside0.mk A140
            clear A140
            have HC15 := Aside0.mk H
            clear H
            go_upto_region 8 with (first | ((with_reducible refine gate_dst (N := 34) rfl ?_); (try (refine gate_guard (by rfl) ?_; dsimp only)); refine Kd.R_lit (Kd.int .u8) _ 5 ?hg (N := 34) ?hd (xs := ([] : List Int)) (inner := []) (ok := fun _ => True) (okp := fun _ => True) ?hr ?hp (fun _ hk => hk) trivial (Below.refl _ _) (Nat.le_refl _) (by simp) ?_; (case hd => rfl); (case hg => rfl); (case hr => first | (go_simp; done) | (go_simp; rfl)); (case hp => exact (Reps.none _ _)); intro v103 w16 ho17 hb hg_ hnew_; clear hg_ hnew_; (first | rw [← Ny102.out] at ho17 | (simp only [Int.reduceToNat] at ho17; rw [← Ny102.out] at ho17)); have n0_ := Aside0.mk (Kd.R_lower ho17 (below_size (by repeat (first | (with_reducible first | exact HB.out | apply below_alloc | apply pw_below_drewN | apply below_drew1 | refine below_set ?_ GE101.out) | exact HB.out)))); have n1_ := Aside0.mk (blk_below (g := gb101) (o := .cells #[.int .i64 a0_0, .int .i64 a0_1, .int .i64 a0_2, .int .i64 a0_3, .int .i64 a0_4, .int .i64 a0_5] 23 (0, 0)) (by (with_reducible repeat (first | refine blk_drewN ?_ _ | refine blk_drew ?_ | refine blk_alloc ?_ _)); exact BK101.out) hb); have n2_ := Aside0.mk (below_step (by repeat (first | (with_reducible first | exact HB.out | apply below_alloc | apply pw_below_drewN | apply below_drew1 | refine below_set ?_ GE101.out) | exact HB.out)) hb); clear BK101; clear HB; have HO104 := n0_; have BK101 := n1_; have HB := n2_; clear n0_ n1_ n2_; clear hb ho17) | ((with_reducible refine gate_builtin (b := .append) (xs := #[.tmp 34, .tmp 35]) rfl ?_); (try (refine gate_guard (by rfl) ?_; dsimp only)); at_builtin; refine Kd.R_append_rows (Kd.int .u8) (w0 := w) w.heap.size rfl (.tmp 34) (.tmp 35) 24 5 (.int .u8 0) 1 rfl Try.underlying24 info5 rfl (by decide) (by omega) v103 y102 l2 _ _ _ (fun _ => True) (fun _ => False) rfl rfl ?aO ?aR (fun _ _ h => h) (fun _ h => h.elim) ?aF ?aB ?aS ?aL ?_; (case aR => repeat (first | exact (Kd.C_below HR2.out HB.out) | (with_reducible refine Kd.C_alloc ?_ _) | (with_reducible refine Kd.C_drewN ?_ _) | (with_reducible refine Kd.C_drew ?_))); (case aB => exact (by repeat (first | (with_reducible first | exact HB.out | apply below_alloc | apply pw_below_drewN | apply below_drew1 | refine below_set ?_ GE101.out) | exact HB.out))); (case aF => exact (fun _ _ => trivial)); (case aO => exact (by (with_reducible repeat (first | apply Kd.R_alloc | apply Kd.R_drewN | apply Kd.R_drew)); exact HO104.out)); (case aS => exact (below_size (by repeat (first | (with_reducible first | exact HB.out | apply below_alloc | apply pw_below_drewN | apply below_drew1 | refine below_set ?_ GE101.out) | exact HB.out)))); (case aL => have := LMc9.out; omega); intro v106 w18 ho hb hg hat; (first | rw [← Ny105.out] at ho | (simp only [Int.reduceToNat] at ho; rw [← Ny105.out] at ho)); have n0_ := Aside0.mk (blk_grown (g := gb101) (o := .cells #[.int .i64 a0_0, .int .i64 a0_1, .int .i64 a0_2, .int .i64 a0_3, .int .i64 a0_4, .int .i64 a0_5] 23 (0, 0)) (by (with_reducible repeat (first | refine blk_drewN ?_ _ | refine blk_drew ?_ | refine blk_alloc ?_ _)); exact BK101.out) hg (Kd.R_ne HO104.out BK101.out (by decide))); have n1_ := Aside0.mk (hb); have n2_ := Aside0.mk (ho); clear BK101; clear HB; clear HO104; have BK101 := n0_; have HB := n1_; have HO107 := n2_; clear n0_ n1_ n2_; clear ho hb hg hat) | ((with_reducible refine gate_dst (N := 37) rfl ?_); (try (refine gate_guard (by rfl) ?_; dsimp only)); refine Kd.R_lit (Kd.int .u8) _ 5 ?hg (N := 37) ?hd (xs := ([] : List Int)) (inner := []) (ok := fun _ => True) (okp := fun _ => True) ?hr ?hp (fun _ hk => hk) trivial (Below.refl _ _) (Nat.le_refl _) (by simp) ?_; (case hd => rfl); (case hg => rfl); (case hr => first | (go_simp; done) | (go_simp; rfl)); (case hp => exact (Reps.none _ _)); intro v109 w19 ho20 hb hg_ hnew_; clear hg_ hnew_; (first | rw [← Ny108.out] at ho20 | (simp only [Int.reduceToNat] at ho20; rw [← Ny108.out] at ho20)); have n0_ := Aside0.mk (Kd.R_elder' (by (with_reducible repeat (first | apply Kd.R_alloc | apply Kd.R_drewN | apply Kd.R_drew)); exact HO107.out) (Kd.R_base ho20) hb); have n1_ := Aside0.mk (Kd.R_lower (Kd.R_new' ho20 (Kd.R_lt (by (with_reducible repeat (first | apply Kd.R_alloc | apply Kd.R_drewN | apply Kd.R_drew)); exact HO107.out))) (below_size (by repeat (first | (with_reducible first | exact HB.out | apply below_alloc | apply pw_below_drewN | apply below_drew1 | refine below_set ?_ GE101.out) | exact HB.out)))); have n2_ := Aside0.mk (blk_below (g := gb101) (o := .cells #[.int .i64 a0_0, .int .i64 a0_1, .int .i64 a0_2, .int .i64 a0_3, .int .i64 a0_4, .int .i64 a0_5] 23 (0, 0)) (by (with_reducible repeat (first | refine blk_drewN ?_ _ | refine blk_drew ?_ | refine blk_alloc ?_ _)); exact BK101.out) hb); have n3_ := Aside0.mk (below_step (by repeat (first | (with_reducible first | exact HB.out | apply below_alloc | apply pw_below_drewN | apply below_drew1 | refine below_set ?_ GE101.out) | exact HB.out)) hb); clear HO107; clear BK101; clear HB; have HO107 := n0_; have HO110 := n1_; have BK101 := n2_; have HB := n3_; clear n0_ n1_ n2_ n3_; clear hb ho20) | ((with_reducible refine gate_builtin (b := .append) (xs := #[.tmp 37, .tmp 38]) rfl ?_); (try (refine gate_guard (by rfl) ?_; dsimp only)); at_builtin; refine Kd.R_append_rows (Kd.int .u8) (w0 := w) w.heap.size rfl (.tmp 37) (.tmp 38) 24 5 (.int .u8 0) 1 rfl Try.underlying24 info5 rfl (by decide) (by omega) v109 y108 l3 _ _ _ (fun k_ => some k_ ≠ (v106 : Value).ownBlock) (fun _ => False) rfl rfl ?aO ?aR (fun _ _ h => h) (fun _ h => h.elim) ?aF ?aB ?aS ?aL ?_; (case aR => repeat (first | exact (Kd.C_below HR3.out HB.out) | (with_reducible refine Kd.C_alloc ?_ _) | (with_reducible refine Kd.C_drewN ?_ _) | (with_reducible refine Kd.C_drew ?_))); (case aB => exact (by repeat (first | (with_reducible first | exact HB.out | apply below_alloc | apply pw_below_drewN | apply below_drew1 | refine below_set ?_ GE101.out) | exact HB.out))); (case aF => exact (fun k_ hk => Kd.fresh' (Kd.R_lt (by (with_reducible repeat (first | apply Kd.R_alloc | apply Kd.R_drewN | apply Kd.R_drew)); exact HO107.out)) k_ hk)); (case aO => exact (by (with_reducible repeat (first | apply Kd.R_alloc | apply Kd.R_drewN | apply Kd.R_drew)); exact Kd.R_mono HO110.out (fun _ hk => hk.2))); (case aS => exact (below_size (by repeat (first | (with_reducible first | exact HB.out | apply below_alloc | apply pw_below_drewN | apply below_drew1 | refine below_set ?_ GE101.out) | exact HB.out)))); (case aL => have := LMc10.out; omega); intro v112 w21 ho hb hg hat; (first | rw [← Ny111.out] at ho | (simp only [Int.reduceToNat] at ho; rw [← Ny111.out] at ho)); have n0_ := Aside0.mk (blk_grown (g := gb101) (o := .cells #[.int .i64 a0_0, .int .i64 a0_1, .int .i64 a0_2, .int .i64 a0_3, .int .i64 a0_4, .int .i64 a0_5] 23 (0, 0)) (by (with_reducible repeat (first | refine blk_drewN ?_ _ | refine blk_drew ?_ | refine blk_alloc ?_ _)); exact BK101.out) hg (Kd.R_ne HO110.out BK101.out (by decide))); have n1_ := Aside0.mk (Kd.R_after (ok := (fun _ => True)) (by (with_reducible repeat (first | apply Kd.R_alloc | apply Kd.R_drewN | apply Kd.R_drew)); exact HO107.out) hg hat); have n2_ := Aside0.mk (hb); have n3_ := Aside0.mk (ho); clear BK101; clear HO107; clear HB; clear HO110; have BK101 := n0_; have HO107 := n1_; have HB := n2_; have HO113 := n3_; clear n0_ n1_ n2_ n3_; clear ho hb hg hat; have hcz22_0 : w21.cell? ⟨gb101, 0, none⟩ = some (.int .i64 a0_0) := (blk_cell BK101.out 0).trans rfl; have hcz22_1 : w21.cell? ⟨gb101, 1, none⟩ = some (.int .i64 a0_1) := (blk_cell BK101.out 1).trans rfl; have hcz22_2 : w21.cell? ⟨gb101, 2, none⟩ = some (.int .i64 a0_2) := (blk_cell BK101.out 2).trans rfl; have hcz22_3 : w21.cell? ⟨gb101, 3, none⟩ = some (.int .i64 a0_3) := (blk_cell BK101.out 3).trans rfl; have hcz22_4 : w21.cell? ⟨gb101, 4, none⟩ = some (.int .i64 a0_4) := (blk_cell BK101.out 4).trans rfl; have hcz22_5 : w21.cell? ⟨gb101, 5, none⟩ = some (.int .i64 a0_5) := (blk_cell BK101.out 5).trans rfl; have hfz22_0 := blk_frozen BK101.out 0; have hfz22_1 := blk_frozen BK101.out 1; have hfz22_2 := blk_frozen BK101.out 2; have hfz22_3 := blk_frozen BK101.out 3; have hfz22_4 := blk_frozen BK101.out 4; have hfz22_5 := blk_frozen BK101.out 5; obtain ⟨Ao23, co23, eo23⟩ := Kd.R_slice HO107.out; subst eo23; obtain ⟨Ao24, co24, eo24⟩ := Kd.R_slice HO113.out; subst eo24) | ((with_reducible refine gate_callee (f := 67) rfl ?_); refine goesL_ (some 45) rfl rfl Try.func67 (by kernel_rfl) rfl #[.agg #[.int .i64 a0_0, .int .i64 a0_1, .int .i64 a0_2, .int .i64 a0_3, .int .i64 a0_4, .int .i64 a0_5], .int .i64 a1, .slice Ao23 y105.length co23, .slice Ao24 y111.length co24] rfl (by (try simp only [List.map_toArray, List.map_cons, List.map_nil]); first | done | rfl | (simp only [List.length_drop, List.length_take]; rfl)) ?_; (with_reducible refine (diff_Clean.calls a0_0 a0_1 a0_2 a0_3 a0_4 a0_5 a1 _ _ y105 _ _ y111 t114 t117 t120 _ ?side1 ?side2 ?side3 ?side4 A11.out).mono ?_); (case side1 => repeat (first | exact (Kd.R_reads' HO107.out).2.2 | (with_reducible refine Kd.C_alloc ?_ _) | (with_reducible refine Kd.C_drewN ?_ _) | (with_reducible refine Kd.C_drew ?_))); (case side2 => exact (Kd.R_reads' HO107.out).2.1); (case side3 => repeat (first | exact (Kd.R_reads' HO113.out).2.2 | (with_reducible refine Kd.C_alloc ?_ _) | (with_reducible refine Kd.C_drewN ?_ _) | (with_reducible refine Kd.C_drew ?_))); (case side4 => exact (Kd.R_reads' HO113.out).2.1); rintro e w25 ⟨v115, v118, rfl, ho0, ho1, hb⟩; refine ⟨_, rfl, ?_⟩; have n0_ := Aside0.mk (Kd.R_elder' (by (with_reducible repeat (first | apply Kd.R_alloc | apply Kd.R_drewN | apply Kd.R_drew)); exact HO107.out) (Kd.R_base ho0) hb); have n1_ := Aside0.mk (Kd.R_elder' (by (with_reducible repeat (first | apply Kd.R_alloc | apply Kd.R_drewN | apply Kd.R_drew)); exact HO113.out) (Kd.R_base ho0) hb); have n2_ := Aside0.mk (Kd.R_lower (Kd.R_new' (Kd.R_new' ho0 (Kd.R_lt (by (with_reducible repeat (first | apply Kd.R_alloc | apply Kd.R_drewN | apply Kd.R_drew)); exact HO107.out))) (Kd.R_lt (by (with_reducible repeat (first | apply Kd.R_alloc | apply Kd.R_drewN | apply Kd.R_drew)); exact HO113.out))) (below_size (by repeat (first | (with_reducible first | exact HB.out | apply below_alloc | apply pw_below_drewN | apply below_drew1 | refine below_set ?_ GE101.out) | exact HB.out)))); have n3_ := Aside0.mk (Kd.S_lower (Kd.S_new' (Kd.S_new' ho1 (Kd.R_lt (by (with_reducible repeat (first | apply Kd.R_alloc | apply Kd.R_drewN | apply Kd.R_drew)); exact HO107.out))) (Kd.R_lt (by (with_reducible repeat (first | apply Kd.R_alloc | apply Kd.R_drewN | apply Kd.R_drew)); exact HO113.out))) (below_size (by repeat (first | (with_reducible first | exact HB.out | apply below_alloc | apply pw_below_drewN | apply below_drew1 | refine below_set ?_ GE101.out) | exact HB.out)))); have n4_ := Aside0.mk (blk_below (g := gb101) (o := .cells #[.int .i64 a0_0, .int .i64 a0_1, .int .i64 a0_2, .int .i64 a0_3, .int .i64 a0_4, .int .i64 a0_5] 23 (0, 0)) (by (with_reducible repeat (first | refine blk_drewN ?_ _ | refine blk_drew ?_ | refine blk_alloc ?_ _)); exact BK101.out) hb); have n5_ := Aside0.mk (below_step (by repeat (first | (with_reducible first | exact HB.out | apply below_alloc | apply pw_below_drewN | apply below_drew1 | refine below_set ?_ GE101.out) | exact HB.out)) hb); clear HO107; clear HO113; clear BK101; clear HB; have HO107 := n0_; have HO113 := n1_; have HO116 := n2_; have HO119 := n3_; have BK101 := n4_; have HB := n5_; clear n0_ n1_ n2_ n3_ n4_ n5_; (try clear hb); (try clear hb2); (try clear hk); (try clear hi); (try clear ho0); (try clear ho1); have hcz26_0 : w25.cell? ⟨gb101, 0, none⟩ = some (.int .i64 a0_0) := (blk_cell BK101.out 0).trans rfl; have hcz26_1 : w25.cell? ⟨gb101, 1, none⟩ = some (.int .i64 a0_1) := (blk_cell BK101.out 1).trans rfl; have hcz26_2 : w25.cell? ⟨gb101, 2, none⟩ = some (.int .i64 a0_2) := (blk_cell BK101.out 2).trans rfl; have hcz26_3 : w25.cell? ⟨gb101, 3, none⟩ = some (.int .i64 a0_3) := (blk_cell BK101.out 3).trans rfl; have hcz26_4 : w25.cell? ⟨gb101, 4, none⟩ = some (.int .i64 a0_4) := (blk_cell BK101.out 4).trans rfl; have hcz26_5 : w25.cell? ⟨gb101, 5, none⟩ = some (.int .i64 a0_5) := (blk_cell BK101.out 5).trans rfl; have hfz26_0 := blk_frozen BK101.out 0; have hfz26_1 := blk_frozen BK101.out 1; have hfz26_2 := blk_frozen BK101.out 2; have hfz26_3 := blk_frozen BK101.out 3; have hfz26_4 := blk_frozen BK101.out 4; have hfz26_5 := blk_frozen BK101.out 5) | ((with_reducible refine gate_callee (f := 68) rfl ?_); refine goesL_ (some 54) rfl rfl Try.func68 (by kernel_rfl) rfl #[.agg #[.int .i64 a0_0, .int .i64 a0_1, .int .i64 a0_2, .int .i64 a0_3, .int .i64 a0_4, .int .i64 a0_5], .int .i64 a1, .slice A2 l2.length c2, .slice A3 l3.length c3] rfl (by (try simp only [List.map_toArray, List.map_cons, List.map_nil]); first | done | rfl | (simp only [List.length_drop, List.length_take]; rfl)) ?_; (with_reducible refine (catamaranref14_Clean.calls kj4 a0_0 a0_1 a0_2 a0_3 a0_4 a0_5 a1 _ _ l2 _ _ l3 t121 t124 t127 _ ?side1 ?side2 ?side3 ?side4 A12.out).mono ?_); (case side1 => repeat (first | exact (Kd.C_below HR2.out HB.out) | (with_reducible refine Kd.C_alloc ?_ _) | (with_reducible refine Kd.C_drewN ?_ _) | (with_reducible refine Kd.C_drew ?_))); (case side2 => exact HC2.out); (case side3 => repeat (first | exact (Kd.C_below HR3.out HB.out) | (with_reducible refine Kd.C_alloc ?_ _) | (with_reducible refine Kd.C_drewN ?_ _) | (with_reducible refine Kd.C_drew ?_))); (case side4 => exact HC3.out); rintro e w27 ⟨v122, v125, rfl, ho0, ho1, hb⟩; refine ⟨_, rfl, ?_⟩; have n0_ := Aside0.mk (Kd.R_elder' (by (with_reducible repeat (first | apply Kd.R_alloc | apply Kd.R_drewN | apply Kd.R_drew)); exact HO107.out) (Kd.R_base ho0) hb); have n1_ := Aside0.mk (Kd.R_elder' (by (with_reducible repeat (first | apply Kd.R_alloc | apply Kd.R_drewN | apply Kd.R_drew)); exact HO113.out) (Kd.R_base ho0) hb); have n2_ := Aside0.mk (Kd.R_elder' (by (with_reducible repeat (first | apply Kd.R_alloc | apply Kd.R_drewN | apply Kd.R_drew)); exact HO116.out) (Kd.R_base ho0) hb); have n3_ := Aside0.mk (Kd.S_mono (Kd.S_told (Kd.S_told (Kd.S_old (by (with_reducible repeat (first | apply Kd.S_alloc | apply Kd.S_drewN | apply Kd.S_drew)); exact HO119.out) hb) (Kd.R_base ho0)) (Kd.S_base ho1)) (fun _ h_ => h_.1)); have n4_ := Aside0.mk (Kd.R_lower (Kd.R_new' (Kd.R_new' (Kd.R_new' ho0 (Kd.R_lt (by (with_reducible repeat (first | apply Kd.R_alloc | apply Kd.R_drewN | apply Kd.R_drew)); exact HO107.out))) (Kd.R_lt (by (with_reducible repeat (first | apply Kd.R_alloc | apply Kd.R_drewN | apply Kd.R_drew)); exact HO113.out))) (Kd.R_lt (by (with_reducible repeat (first | apply Kd.R_alloc | apply Kd.R_drewN | apply Kd.R_drew)); exact HO116.out))) (below_size (by repeat (first | (with_reducible first | exact HB.out | apply below_alloc | apply pw_below_drewN | apply below_drew1 | refine below_set ?_ GE101.out) | exact HB.out)))); have n5_ := Aside0.mk (Kd.S_lower (Kd.S_new' (Kd.S_new' (Kd.S_new' (Kd.S_new' ho1 (Kd.R_lt (by (with_reducible repeat (first | apply Kd.R_alloc | apply Kd.R_drewN | apply Kd.R_drew)); exact HO107.out))) (Kd.R_lt (by (with_reducible repeat (first | apply Kd.R_alloc | apply Kd.R_drewN | apply Kd.R_drew)); exact HO113.out))) (Kd.R_lt (by (with_reducible repeat (first | apply Kd.R_alloc | apply Kd.R_drewN | apply Kd.R_drew)); exact HO116.out))) (Kd.S_lt (by (with_reducible repeat (first | apply Kd.S_alloc | apply Kd.S_drewN | apply Kd.S_drew)); exact HO119.out))) (below_size (by repeat (first | (with_reducible first | exact HB.out | apply below_alloc | apply pw_below_drewN | apply below_drew1 | refine below_set ?_ GE101.out) | exact HB.out)))); have n6_ := Aside0.mk (blk_below (g := gb101) (o := .cells #[.int .i64 a0_0, .int .i64 a0_1, .int .i64 a0_2, .int .i64 a0_3, .int .i64 a0_4, .int .i64 a0_5] 23 (0, 0)) (by (with_reducible repeat (first | refine blk_drewN ?_ _ | refine blk_drew ?_ | refine blk_alloc ?_ _)); exact BK101.out) hb); have n7_ := Aside0.mk (below_step (by repeat (first | (with_reducible first | exact HB.out | apply below_alloc | apply pw_below_drewN | apply below_drew1 | refine below_set ?_ GE101.out) | exact HB.out)) hb); clear HO107; clear HO113; clear HO116; clear HO119; clear BK101; clear HB; have HO107 := n0_; have HO113 := n1_; have HO116 := n2_; have HO119 := n3_; have HO123 := n4_; have HO126 := n5_; have BK101 := n6_; have HB := n7_; clear n0_ n1_ n2_ n3_ n4_ n5_ n6_ n7_; (try clear hb); (try clear hb2); (try clear hk); (try clear hi); (try clear ho0); (try clear ho1); have hcz28_0 : w27.cell? ⟨gb101, 0, none⟩ = some (.int .i64 a0_0) := (blk_cell BK101.out 0).trans rfl; have hcz28_1 : w27.cell? ⟨gb101, 1, none⟩ = some (.int .i64 a0_1) := (blk_cell BK101.out 1).trans rfl; have hcz28_2 : w27.cell? ⟨gb101, 2, none⟩ = some (.int .i64 a0_2) := (blk_cell BK101.out 2).trans rfl; have hcz28_3 : w27.cell? ⟨gb101, 3, none⟩ = some (.int .i64 a0_3) := (blk_cell BK101.out 3).trans rfl; have hcz28_4 : w27.cell? ⟨gb101, 4, none⟩ = some (.int .i64 a0_4) := (blk_cell BK101.out 4).trans rfl; have hcz28_5 : w27.cell? ⟨gb101, 5, none⟩ = some (.int .i64 a0_5) := (blk_cell BK101.out 5).trans rfl; have hfz28_0 := blk_frozen BK101.out 0; have hfz28_1 := blk_frozen BK101.out 1; have hfz28_2 := blk_frozen BK101.out 2; have hfz28_3 := blk_frozen BK101.out 3; have hfz28_4 := blk_frozen BK101.out 4; have hfz28_5 := blk_frozen BK101.out 5) | ((with_reducible refine gate_callee (f := 69) rfl ?_); refine goesL_ (some 62) rfl rfl Try.func69 (by kernel_rfl) rfl #[.agg #[.int .i64 a0_0, .int .i64 a0_1, .int .i64 a0_2, .int .i64 a0_3, .int .i64 a0_4, .int .i64 a0_5], .int .i64 a1, .slice Ao23 y105.length co23] rfl (by (try simp only [List.map_toArray, List.map_cons, List.map_nil]); first | done | rfl | (simp only [List.length_drop, List.length_take]; rfl)) ?_; (with_reducible refine (diff_Fill.calls a0_0 a0_1 a0_2 a0_3 a0_4 a0_5 a1 _ _ y105 t128 t131 t134 _ ?side1 ?side2 A13.out).mono ?_); (case side1 => repeat (first | exact (Kd.R_reads' HO107.out).2.2 | (with_reducible refine Kd.C_alloc ?_ _) | (with_reducible refine Kd.C_drewN ?_ _) | (with_reducible refine Kd.C_drew ?_))); (case side2 => exact (Kd.R_reads' HO107.out).2.1); rintro e w29 ⟨v129, v132, rfl, ho0, ho1, hb⟩; refine ⟨_, rfl, ?_⟩; have n0_ := Aside0.mk (Kd.R_elder' (by (with_reducible repeat (first | apply Kd.R_alloc | apply Kd.R_drewN | apply Kd.R_drew)); exact HO107.out) (Kd.R_base ho0) hb); have n1_ := Aside0.mk (Kd.R_elder' (by (with_reducible repeat (first | apply Kd.R_alloc | apply Kd.R_drewN | apply Kd.R_drew)); exact HO113.out) (Kd.R_base ho0) hb); have n2_ := Aside0.mk (Kd.R_elder' (by (with_reducible repeat (first | apply Kd.R_alloc | apply Kd.R_drewN | apply Kd.R_drew)); exact HO116.out) (Kd.R_base ho0) hb); have n3_ := Aside0.mk (Kd.S_mono (Kd.S_told (Kd.S_told (Kd.S_old (by (with_reducible repeat (first | apply Kd.S_alloc | apply Kd.S_drewN | apply Kd.S_drew)); exact HO119.out) hb) (Kd.R_base ho0)) (Kd.S_base ho1)) (fun _ h_ => h_.1)); have n4_ := Aside0.mk (Kd.R_elder' (by (with_reducible repeat (first | apply Kd.R_alloc | apply Kd.R_drewN | apply Kd.R_drew)); exact HO123.out) (Kd.R_base ho0) hb); have n5_ := Aside0.mk (Kd.S_mono (Kd.S_told (Kd.S_told (Kd.S_old (by (with_reducible repeat (first | apply Kd.S_alloc | apply Kd.S_drewN | apply Kd.S_drew)); exact HO126.out) hb) (Kd.R_base ho0)) (Kd.S_base ho1)) (fun _ h_ => h_.1)); have n6_ := Aside0.mk (Kd.R_lower (Kd.R_new' (Kd.R_new' (Kd.R_new' (Kd.R_new' ho0 (Kd.R_lt (by (with_reducible repeat (first | apply Kd.R_alloc | apply Kd.R_drewN | apply Kd.R_drew)); exact HO107.out))) (Kd.R_lt (by (with_reducible repeat (first | apply Kd.R_alloc | apply Kd.R_drewN | apply Kd.R_drew)); exact HO113.out))) (Kd.R_lt (by (with_reducible repeat (first | apply Kd.R_alloc | apply Kd.R_drewN | apply Kd.R_drew)); exact HO116.out))) (Kd.R_lt (by (with_reducible repeat (first | apply Kd.R_alloc | apply Kd.R_drewN | apply Kd.R_drew)); exact HO123.out))) (below_size (by repeat (first | (with_reducible first | exact HB.out | apply below_alloc | apply pw_below_drewN | apply below_drew1 | refine below_set ?_ GE101.out) | exact HB.out)))); have n7_ := Aside0.mk (Kd.S_lower (Kd.S_new' (Kd.S_new' (Kd.S_new' (Kd.S_new' (Kd.S_new' (Kd.S_new' ho1 (Kd.R_lt (by (with_reducible repeat (first | apply Kd.R_alloc | apply Kd.R_drewN | apply Kd.R_drew)); exact HO107.out))) (Kd.R_lt (by (with_reducible repeat (first | apply Kd.R_alloc | apply Kd.R_drewN | apply Kd.R_drew)); exact HO113.out))) (Kd.R_lt (by (with_reducible repeat (first | apply Kd.R_alloc | apply Kd.R_drewN | apply Kd.R_drew)); exact HO116.out))) (Kd.S_lt (by (with_reducible repeat (first | apply Kd.S_alloc | apply Kd.S_drewN | apply Kd.S_drew)); exact HO119.out))) (Kd.R_lt (by (with_reducible repeat (first | apply Kd.R_alloc | apply Kd.R_drewN | apply Kd.R_drew)); exact HO123.out))) (Kd.S_lt (by (with_reducible repeat (first | apply Kd.S_alloc | apply Kd.S_drewN | apply Kd.S_drew)); exact HO126.out))) (below_size (by repeat (first | (with_reducible first | exact HB.out | apply below_alloc | apply pw_below_drewN | apply below_drew1 | refine below_set ?_ GE101.out) | exact HB.out)))); have n8_ := Aside0.mk (blk_below (g := gb101) (o := .cells #[.int .i64 a0_0, .int .i64 a0_1, .int .i64 a0_2, .int .i64 a0_3, .int .i64 a0_4, .int .i64 a0_5] 23 (0, 0)) (by (with_reducible repeat (first | refine blk_drewN ?_ _ | refine blk_drew ?_ | refine blk_alloc ?_ _)); exact BK101.out) hb); have n9_ := Aside0.mk (below_step (by repeat (first | (with_reducible first | exact HB.out | apply below_alloc | apply pw_below_drewN | apply below_drew1 | refine below_set ?_ GE101.out) | exact HB.out)) hb); clear HO107; clear HO113; clear HO116; clear HO119; clear HO123; clear HO126; clear BK101; clear HB; have HO107 := n0_; have HO113 := n1_; have HO116 := n2_; have HO119 := n3_; have HO123 := n4_; have HO126 := n5_; have HO130 := n6_; have HO133 := n7_; have BK101 := n8_; have HB := n9_; clear n0_ n1_ n2_ n3_ n4_ n5_ n6_ n7_ n8_ n9_; (try clear hb); (try clear hb2); (try clear hk); (try clear hi); (try clear ho0); (try clear ho1); have hcz30_0 : w29.cell? ⟨gb101, 0, none⟩ = some (.int .i64 a0_0) := (blk_cell BK101.out 0).trans rfl; have hcz30_1 : w29.cell? ⟨gb101, 1, none⟩ = some (.int .i64 a0_1) := (blk_cell BK101.out 1).trans rfl; have hcz30_2 : w29.cell? ⟨gb101, 2, none⟩ = some (.int .i64 a0_2) := (blk_cell BK101.out 2).trans rfl; have hcz30_3 : w29.cell? ⟨gb101, 3, none⟩ = some (.int .i64 a0_3) := (blk_cell BK101.out 3).trans rfl; have hcz30_4 : w29.cell? ⟨gb101, 4, none⟩ = some (.int .i64 a0_4) := (blk_cell BK101.out 4).trans rfl; have hcz30_5 : w29.cell? ⟨gb101, 5, none⟩ = some (.int .i64 a0_5) := (blk_cell BK101.out 5).trans rfl; have hfz30_0 := blk_frozen BK101.out 0; have hfz30_1 := blk_frozen BK101.out 1; have hfz30_2 := blk_frozen BK101.out 2; have hfz30_3 := blk_frozen BK101.out 3; have hfz30_4 := blk_frozen BK101.out 4; have hfz30_5 := blk_frozen BK101.out 5) | ((with_reducible refine gate_callee (f := 70) rfl ?_); refine goesL_ (some 70) rfl rfl Try.func70 (by kernel_rfl) rfl #[.agg #[.int .i64 a0_0, .int .i64 a0_1, .int .i64 a0_2, .int .i64 a0_3, .int .i64 a0_4, .int .i64 a0_5], .int .i64 a1, .slice A2 l2.length c2] rfl (by (try simp only [List.map_toArray, List.map_cons, List.map_nil]); first | done | rfl | (simp only [List.length_drop, List.length_take]; rfl)) ?_; (with_reducible refine (catamaranref14_Fill.calls kj4 a0_0 a0_1 a0_2 a0_3 a0_4 a0_5 a1 _ _ l2 t135 t138 t141 _ ?side1 ?side2 A14.out).mono ?_); (case side1 => repeat (first | exact (Kd.C_below HR2.out HB.out) | (with_reducible refine Kd.C_alloc ?_ _) | (with_reducible refine Kd.C_drewN ?_ _) | (with_reducible refine Kd.C_drew ?_))); (case side2 => exact HC2.out); rintro e w31 ⟨v136, v139, rfl, ho0, ho1, hb⟩; refine ⟨_, rfl, ?_⟩; have n0_ := Aside0.mk (Kd.R_elder' (by (with_reducible repeat (first | apply Kd.R_alloc | apply Kd.R_drewN | apply Kd.R_drew)); exact HO107.out) (Kd.R_base ho0) hb); have n1_ := Aside0.mk (Kd.R_elder' (by (with_reducible repeat (first | apply Kd.R_alloc | apply Kd.R_drewN | apply Kd.R_drew)); exact HO113.out) (Kd.R_base ho0) hb); have n2_ := Aside0.mk (Kd.R_elder' (by (with_reducible repeat (first | apply Kd.R_alloc | apply Kd.R_drewN | apply Kd.R_drew)); exact HO116.out) (Kd.R_base ho0) hb); have n3_ := Aside0.mk (Kd.S_mono (Kd.S_told (Kd.S_told (Kd.S_old (by (with_reducible repeat (first | apply Kd.S_alloc | apply Kd.S_drewN | apply Kd.S_drew)); exact HO119.out) hb) (Kd.R_base ho0)) (Kd.S_base ho1)) (fun _ h_ => h_.1)); have n4_ := Aside0.mk (Kd.R_elder' (by (with_reducible repeat (first | apply Kd.R_alloc | apply Kd.R_drewN | apply Kd.R_drew)); exact HO123.out) (Kd.R_base ho0) hb); have n5_ := Aside0.mk (Kd.S_mono (Kd.S_told (Kd.S_told (Kd.S_old (by (with_reducible repeat (first | apply Kd.S_alloc | apply Kd.S_drewN | apply Kd.S_drew)); exact HO126.out) hb) (Kd.R_base ho0)) (Kd.S_base ho1)) (fun _ h_ => h_.1)); have n6_ := Aside0.mk (Kd.R_elder' (by (with_reducible repeat (first | apply Kd.R_alloc | apply Kd.R_drewN | apply Kd.R_drew)); exact HO130.out) (Kd.R_base ho0) hb); have n7_ := Aside0.mk (Kd.S_mono (Kd.S_told (Kd.S_told (Kd.S_old (by (with_reducible repeat (first | apply Kd.S_alloc | apply Kd.S_drewN | apply Kd.S_drew)); exact HO133.out) hb) (Kd.R_base ho0)) (Kd.S_base ho1)) (fun _ h_ => h_.1)); have n8_ := Aside0.mk (Kd.R_lower (Kd.R_new' (Kd.R_new' (Kd.R_new' (Kd.R_new' (Kd.R_new' ho0 (Kd.R_lt (by (with_reducible repeat (first | apply Kd.R_alloc | apply Kd.R_drewN | apply Kd.R_drew)); exact HO107.out))) (Kd.R_lt (by (with_reducible repeat (first | apply Kd.R_alloc | apply Kd.R_drewN | apply Kd.R_drew)); exact HO113.out))) (Kd.R_lt (by (with_reducible repeat (first | apply Kd.R_alloc | apply Kd.R_drewN | apply Kd.R_drew)); exact HO116.out))) (Kd.R_lt (by (with_reducible repeat (first | apply Kd.R_alloc | apply Kd.R_drewN | apply Kd.R_drew)); exact HO123.out))) (Kd.R_lt (by (with_reducible repeat (first | apply Kd.R_alloc | apply Kd.R_drewN | apply Kd.R_drew)); exact HO130.out))) (below_size (by repeat (first | (with_reducible first | exact HB.out | apply below_alloc | apply pw_below_drewN | apply below_drew1 | refine below_set ?_ GE101.out) | exact HB.out)))); have n9_ := Aside0.mk (Kd.S_lower (Kd.S_new' (Kd.S_new' (Kd.S_new' (Kd.S_new' (Kd.S_new' (Kd.S_new' (Kd.S_new' (Kd.S_new' ho1 (Kd.R_lt (by (with_reducible repeat (first | apply Kd.R_alloc | apply Kd.R_drewN | apply Kd.R_drew)); exact HO107.out))) (Kd.R_lt (by (with_reducible repeat (first | apply Kd.R_alloc | apply Kd.R_drewN | apply Kd.R_drew)); exact HO113.out))) (Kd.R_lt (by (with_reducible repeat (first | apply Kd.R_alloc | apply Kd.R_drewN | apply Kd.R_drew)); exact HO116.out))) (Kd.S_lt (by (with_reducible repeat (first | apply Kd.S_alloc | apply Kd.S_drewN | apply Kd.S_drew)); exact HO119.out))) (Kd.R_lt (by (with_reducible repeat (first | apply Kd.R_alloc | apply Kd.R_drewN | apply Kd.R_drew)); exact HO123.out))) (Kd.S_lt (by (with_reducible repeat (first | apply Kd.S_alloc | apply Kd.S_drewN | apply Kd.S_drew)); exact HO126.out))) (Kd.R_lt (by (with_reducible repeat (first | apply Kd.R_alloc | apply Kd.R_drewN | apply Kd.R_drew)); exact HO130.out))) (Kd.S_lt (by (with_reducible repeat (first | apply Kd.S_alloc | apply Kd.S_drewN | apply Kd.S_drew)); exact HO133.out))) (below_size (by repeat (first | (with_reducible first | exact HB.out | apply below_alloc | apply pw_below_drewN | apply below_drew1 | refine below_set ?_ GE101.out) | exact HB.out)))); have n10_ := Aside0.mk (blk_below (g := gb101) (o := .cells #[.int .i64 a0_0, .int .i64 a0_1, .int .i64 a0_2, .int .i64 a0_3, .int .i64 a0_4, .int .i64 a0_5] 23 (0, 0)) (by (with_reducible repeat (first | refine blk_drewN ?_ _ | refine blk_drew ?_ | refine blk_alloc ?_ _)); exact BK101.out) hb); have n11_ := Aside0.mk (below_step (by repeat (first | (with_reducible first | exact HB.out | apply below_alloc | apply pw_below_drewN | apply below_drew1 | refine below_set ?_ GE101.out) | exact HB.out)) hb); clear HO107; clear HO113; clear HO116; clear HO119; clear HO123; clear HO126; clear HO130; clear HO133; clear BK101; clear HB; have HO107 := n0_; have HO113 := n1_; have HO116 := n2_; have HO119 := n3_; have HO123 := n4_; have HO126 := n5_; have HO130 := n6_; have HO133 := n7_; have HO137 := n8_; have HO140 := n9_; have BK101 := n10_; have HB := n11_; clear n0_ n1_ n2_ n3_ n4_ n5_ n6_ n7_ n8_ n9_ n10_ n11_; (try clear hb); (try clear hb2); (try clear hk); (try clear hi); (try clear ho0); (try clear ho1)))
            (try simp only [Act.put, List.setIfInBounds_toArray, List.set_cons_zero, List.set_cons_succ])
            go_cut [23] (fun v23 wc => ∃ (kq : Nat) (x23_14 : Bool), v23 = .bool x23_14 ∧ Aside0 (catamaranlaw14_DiffCleans.j1 kq l2 l3 y105 y111 t114 t128 x23_14 = some r) ∧ Aside0 (kq ≤ kj4) ∧ Aside0 (Kd.R (Kd.int .u8) 5 wc w.heap.size (fun k_ => some k_ ≠ ((.slice Ao24 y111.length co24) : Value).ownBlock ∧ some k_ ≠ (v115 : Value).ownBlock ∧ some k_ ≠ (v129 : Value).ownBlock) (.slice Ao23 y105.length co23) y105) ∧ Aside0 (Kd.R (Kd.int .u8) 5 wc w.heap.size (fun k_ => some k_ ≠ ((.slice Ao23 y105.length co23) : Value).ownBlock ∧ some k_ ≠ (v115 : Value).ownBlock ∧ some k_ ≠ (v129 : Value).ownBlock) (.slice Ao24 y111.length co24) y111) ∧ Aside0 (Kd.R (Kd.int .u8) 5 wc w.heap.size (fun k_ => some k_ ≠ ((.slice Ao23 y105.length co23) : Value).ownBlock ∧ some k_ ≠ ((.slice Ao24 y111.length co24) : Value).ownBlock ∧ some k_ ≠ (v129 : Value).ownBlock) v115 t114) ∧ Aside0 (Kd.R (Kd.int .u8) 5 wc w.heap.size (fun k_ => some k_ ≠ ((.slice Ao23 y105.length co23) : Value).ownBlock ∧ some k_ ≠ ((.slice Ao24 y111.length co24) : Value).ownBlock ∧ some k_ ≠ (v115 : Value).ownBlock) v129 t128) ∧ Aside0 (wc.heap[gb101]? = some (.cells #[.int .i64 a0_0, .int .i64 a0_1, .int .i64 a0_2, .int .i64 a0_3, .int .i64 a0_4, .int .i64 a0_5] 23 (0, 0))) ∧ Aside0 (Below w.heap.size w wc))
            case first =>
              have H := HC15.out
              clear HC15
              by_cases c32 : (strOfNums t114).toList = (strOfNums t121).toList
              · rw [if_pos c32] at H
                have c32b0 : ((strOfNums t114).toList == (strOfNums t121).toList) = true := beq_iff_eq.mpr c32
                have c32b1 : ((strOfNums t114).toList != (strOfNums t121).toList) = false := bne_eq_false_iff_eq.mpr c32
                clear c32
                (first | rw [c32b0] | (simp only [i64_w, i32_w]; rw [c32b0]) | skip)
                replace H := Option.bind_eq_some_iff.mp H
                obtain ⟨t142, A330, H⟩ := H
                replace H : (if t142 = true then (if t120 = t127 then (if (strOfNums t128).toList = (strOfNums t135).toList then ((catamaranref12_SameActs.f kj4 t131 t138).bind fun t143 => (if t143 = true then (catamaranlaw14_DiffCleans.j1 kj4 l2 l3 y105 y111 t114 t128 (t134 == t141)) else (catamaranlaw14_DiffCleans.j1 kj4 l2 l3 y105 y111 t114 t128 false))) else (catamaranlaw14_DiffCleans.j1 kj4 l2 l3 y105 y111 t114 t128 false)) else (catamaranlaw14_DiffCleans.j1 kj4 l2 l3 y105 y111 t114 t128 false)) else (catamaranlaw14_DiffCleans.j1 kj4 l2 l3 y105 y111 t114 t128 false)) = some r := H
                have A33 := Aside0.mk A330
                clear A330
                by_cases c34 : t142 = true
                · subst c34
                  have H1 : (if t120 = t127 then (if (strOfNums t128).toList = (strOfNums t135).toList then ((catamaranref12_SameActs.f kj4 t131 t138).bind fun t143 => (if t143 = true then (catamaranlaw14_DiffCleans.j1 kj4 l2 l3 y105 y111 t114 t128 (t134 == t141)) else (catamaranlaw14_DiffCleans.j1 kj4 l2 l3 y105 y111 t114 t128 false))) else (catamaranlaw14_DiffCleans.j1 kj4 l2 l3 y105 y111 t114 t128 false)) else (catamaranlaw14_DiffCleans.j1 kj4 l2 l3 y105 y111 t114 t128 false)) = some r := by rw [if_pos rfl] at H; exact H
                  clear H
                  have H := H1
                  clear H1
                  by_cases c35 : t120 = t127
                  · rw [if_pos c35] at H
                    have c35b0 : (t120 == t127) = true := beq_iff_eq.mpr c35
                    have c35b1 : (t120 != t127) = false := bne_eq_false_iff_eq.mpr c35
                    clear c35
                    by_cases c36 : (strOfNums t128).toList = (strOfNums t135).toList
                    · rw [if_pos c36] at H
                      have c36b0 : ((strOfNums t128).toList == (strOfNums t135).toList) = true := beq_iff_eq.mpr c36
                      have c36b1 : ((strOfNums t128).toList != (strOfNums t135).toList) = false := bne_eq_false_iff_eq.mpr c36
                      clear c36
                      replace H := Option.bind_eq_some_iff.mp H
                      obtain ⟨t143, A370, H⟩ := H
                      replace H : (if t143 = true then (catamaranlaw14_DiffCleans.j1 kj4 l2 l3 y105 y111 t114 t128 (t134 == t141)) else (catamaranlaw14_DiffCleans.j1 kj4 l2 l3 y105 y111 t114 t128 false)) = some r := H
                      have A37 := Aside0.mk A370
                      clear A370
                      by_cases c38 : t143 = true
                      · subst c38
                        have H1 : (catamaranlaw14_DiffCleans.j1 kj4 l2 l3 y105 y111 t114 t128 (t134 == t141)) = some r := by rw [if_pos rfl] at H; exact H
                        clear H
                        have H := H1
                        clear H1
                        have H' := Aside0.mk H
                        clear H
                        have hcv39 := own_string (P := Try.prog) Try.underlying24 Try.underlying5 Try.underlying9 (Kd.own_of_R HO116.out)
                        have hcv40 := fun m_ : Nat => own_string (P := Try.prog) Try.underlying24 Try.underlying5 Try.underlying9 (Kd.own_of_R (Kd.R_drewN HO116.out m_))
                        have hcv41 := own_string (P := Try.prog) Try.underlying24 Try.underlying5 Try.underlying9 (Kd.own_of_R HO123.out)
                        have hcv42 := fun m_ : Nat => own_string (P := Try.prog) Try.underlying24 Try.underlying5 Try.underlying9 (Kd.own_of_R (Kd.R_drewN HO123.out m_))
                        obtain ⟨Ao43, co43, eo43⟩ := Kd.S_slice HO119.out
                        subst eo43
                        obtain ⟨Ao44, co44, eo44⟩ := Kd.S_slice HO126.out
                        subst eo44
                        go_wp2_with (first | (go_at_call 71; (with_reducible refine (catamaranref12_SameActs.calls kj4 _ _ t117 _ _ t124 true _ ?side1 ?side2 ?side3 ?side4 A33.out).mono ?_); (case side1 => repeat (first | exact (Kd.S_reads' HO119.out).2.2 | (with_reducible refine Kd.C_alloc ?_ _) | (with_reducible refine Kd.C_drewN ?_ _) | (with_reducible refine Kd.C_drew ?_))); (case side2 => exact (Kd.S_reads' HO119.out).2.1); (case side3 => repeat (first | exact (Kd.S_reads' HO126.out).2.2 | (with_reducible refine Kd.C_alloc ?_ _) | (with_reducible refine Kd.C_drewN ?_ _) | (with_reducible refine Kd.C_drew ?_))); (case side4 => exact (Kd.S_reads' HO126.out).2.1); rintro e w' ⟨rfl, ⟨nd, rfl⟩⟩; have hcv45 := own_string (P := Try.prog) Try.underlying24 Try.underlying5 Try.underlying9 (Kd.own_of_R HO130.out); have hcv46 := fun m_ : Nat => own_string (P := Try.prog) Try.underlying24 Try.underlying5 Try.underlying9 (Kd.own_of_R (Kd.R_drewN HO130.out m_)); have hcv47 := own_string (P := Try.prog) Try.underlying24 Try.underlying5 Try.underlying9 (Kd.own_of_R HO137.out); have hcv48 := fun m_ : Nat => own_string (P := Try.prog) Try.underlying24 Try.underlying5 Try.underlying9 (Kd.own_of_R (Kd.R_drewN HO137.out m_)); obtain ⟨Ao49, co49, eo49⟩ := Kd.S_slice HO133.out; subst eo49; obtain ⟨Ao50, co50, eo50⟩ := Kd.S_slice HO140.out; subst eo50) | (go_at_call 71; (with_reducible refine (catamaranref12_SameActs.calls kj4 _ _ t131 _ _ t138 true _ ?side1 ?side2 ?side3 ?side4 A37.out).mono ?_); (case side1 => repeat (first | exact (Kd.S_reads' HO133.out).2.2 | (with_reducible refine Kd.C_alloc ?_ _) | (with_reducible refine Kd.C_drewN ?_ _) | (with_reducible refine Kd.C_drew ?_))); (case side2 => exact (Kd.S_reads' HO133.out).2.1); (case side3 => repeat (first | exact (Kd.S_reads' HO140.out).2.2 | (with_reducible refine Kd.C_alloc ?_ _) | (with_reducible refine Kd.C_drewN ?_ _) | (with_reducible refine Kd.C_drew ?_))); (case side4 => exact (Kd.S_reads' HO140.out).2.1); rintro e w' ⟨rfl, ⟨nd, rfl⟩⟩))
                        go_meet
                        case rel => exact ⟨_, ((t134 == t141)), (by first | rfl | (simp; done) | (simp [*]; done)), H', ⟨by have := HJ4.out; first | omega | exact Nat.le_refl _⟩, ⟨by (with_reducible repeat (first | apply Kd.R_alloc | apply Kd.R_drewN | apply Kd.R_drew)); exact Kd.R_mono HO107.out (fun _ hk => ⟨hk.1.1.1.1.2, ⟨hk.1.1.1.2, hk.1.2⟩⟩)⟩, ⟨by (with_reducible repeat (first | apply Kd.R_alloc | apply Kd.R_drewN | apply Kd.R_drew)); exact Kd.R_mono HO113.out (fun _ hk => ⟨hk.1.1.1.1, ⟨hk.1.1.1.2, hk.1.2⟩⟩)⟩, ⟨by (with_reducible repeat (first | apply Kd.R_alloc | apply Kd.R_drewN | apply Kd.R_drew)); exact Kd.R_mono HO116.out (fun _ hk => ⟨hk.1.1.1.1.2, ⟨hk.1.1.1.2, hk.1.2⟩⟩)⟩, ⟨by (with_reducible repeat (first | apply Kd.R_alloc | apply Kd.R_drewN | apply Kd.R_drew)); exact Kd.R_mono HO130.out (fun _ hk => ⟨hk.1.1.1.1.2, ⟨hk.1.1.1.2, hk.1.1.2⟩⟩)⟩, ⟨by (with_reducible repeat (first | refine blk_drewN ?_ _ | refine blk_drew ?_ | refine blk_alloc ?_ _)); exact BK101.out⟩, ⟨by repeat (first | (with_reducible first | exact HB.out | apply below_alloc | apply pw_below_drewN | apply below_drew1 | refine below_set ?_ GE101.out) | exact HB.out)⟩⟩
                      · replace c38 := Bool.eq_false_iff.mpr c38
                        subst c38
                        have H1 : (catamaranlaw14_DiffCleans.j1 kj4 l2 l3 y105 y111 t114 t128 false) = some r := by rw [if_neg (show ¬ (false = true) by decide)] at H; exact H
                        clear H
                        have H := H1
                        clear H1
                        have H' := Aside0.mk H
                        clear H
                        have hcv51 := own_string (P := Try.prog) Try.underlying24 Try.underlying5 Try.underlying9 (Kd.own_of_R HO116.out)
                        have hcv52 := fun m_ : Nat => own_string (P := Try.prog) Try.underlying24 Try.underlying5 Try.underlying9 (Kd.own_of_R (Kd.R_drewN HO116.out m_))
                        have hcv53 := own_string (P := Try.prog) Try.underlying24 Try.underlying5 Try.underlying9 (Kd.own_of_R HO123.out)
                        have hcv54 := fun m_ : Nat => own_string (P := Try.prog) Try.underlying24 Try.underlying5 Try.underlying9 (Kd.own_of_R (Kd.R_drewN HO123.out m_))
                        obtain ⟨Ao55, co55, eo55⟩ := Kd.S_slice HO119.out
                        subst eo55
                        obtain ⟨Ao56, co56, eo56⟩ := Kd.S_slice HO126.out
                        subst eo56
                        go_wp2_with (first | (go_at_call 71; (with_reducible refine (catamaranref12_SameActs.calls kj4 _ _ t117 _ _ t124 true _ ?side1 ?side2 ?side3 ?side4 A33.out).mono ?_); (case side1 => repeat (first | exact (Kd.S_reads' HO119.out).2.2 | (with_reducible refine Kd.C_alloc ?_ _) | (with_reducible refine Kd.C_drewN ?_ _) | (with_reducible refine Kd.C_drew ?_))); (case side2 => exact (Kd.S_reads' HO119.out).2.1); (case side3 => repeat (first | exact (Kd.S_reads' HO126.out).2.2 | (with_reducible refine Kd.C_alloc ?_ _) | (with_reducible refine Kd.C_drewN ?_ _) | (with_reducible refine Kd.C_drew ?_))); (case side4 => exact (Kd.S_reads' HO126.out).2.1); rintro e w' ⟨rfl, ⟨nd, rfl⟩⟩; have hcv57 := own_string (P := Try.prog) Try.underlying24 Try.underlying5 Try.underlying9 (Kd.own_of_R HO130.out); have hcv58 := fun m_ : Nat => own_string (P := Try.prog) Try.underlying24 Try.underlying5 Try.underlying9 (Kd.own_of_R (Kd.R_drewN HO130.out m_)); have hcv59 := own_string (P := Try.prog) Try.underlying24 Try.underlying5 Try.underlying9 (Kd.own_of_R HO137.out); have hcv60 := fun m_ : Nat => own_string (P := Try.prog) Try.underlying24 Try.underlying5 Try.underlying9 (Kd.own_of_R (Kd.R_drewN HO137.out m_)); obtain ⟨Ao61, co61, eo61⟩ := Kd.S_slice HO133.out; subst eo61; obtain ⟨Ao62, co62, eo62⟩ := Kd.S_slice HO140.out; subst eo62) | (go_at_call 71; (with_reducible refine (catamaranref12_SameActs.calls kj4 _ _ t131 _ _ t138 false _ ?side1 ?side2 ?side3 ?side4 A37.out).mono ?_); (case side1 => repeat (first | exact (Kd.S_reads' HO133.out).2.2 | (with_reducible refine Kd.C_alloc ?_ _) | (with_reducible refine Kd.C_drewN ?_ _) | (with_reducible refine Kd.C_drew ?_))); (case side2 => exact (Kd.S_reads' HO133.out).2.1); (case side3 => repeat (first | exact (Kd.S_reads' HO140.out).2.2 | (with_reducible refine Kd.C_alloc ?_ _) | (with_reducible refine Kd.C_drewN ?_ _) | (with_reducible refine Kd.C_drew ?_))); (case side4 => exact (Kd.S_reads' HO140.out).2.1); rintro e w' ⟨rfl, ⟨nd, rfl⟩⟩))
                        go_meet
                        case rel => exact ⟨_, (false), (by first | rfl | (simp; done) | (simp [*]; done)), H', ⟨by have := HJ4.out; first | omega | exact Nat.le_refl _⟩, ⟨by (with_reducible repeat (first | apply Kd.R_alloc | apply Kd.R_drewN | apply Kd.R_drew)); exact Kd.R_mono HO107.out (fun _ hk => ⟨hk.1.1.1.1.2, ⟨hk.1.1.1.2, hk.1.2⟩⟩)⟩, ⟨by (with_reducible repeat (first | apply Kd.R_alloc | apply Kd.R_drewN | apply Kd.R_drew)); exact Kd.R_mono HO113.out (fun _ hk => ⟨hk.1.1.1.1, ⟨hk.1.1.1.2, hk.1.2⟩⟩)⟩, ⟨by (with_reducible repeat (first | apply Kd.R_alloc | apply Kd.R_drewN | apply Kd.R_drew)); exact Kd.R_mono HO116.out (fun _ hk => ⟨hk.1.1.1.1.2, ⟨hk.1.1.1.2, hk.1.2⟩⟩)⟩, ⟨by (with_reducible repeat (first | apply Kd.R_alloc | apply Kd.R_drewN | apply Kd.R_drew)); exact Kd.R_mono HO130.out (fun _ hk => ⟨hk.1.1.1.1.2, ⟨hk.1.1.1.2, hk.1.1.2⟩⟩)⟩, ⟨by (with_reducible repeat (first | refine blk_drewN ?_ _ | refine blk_drew ?_ | refine blk_alloc ?_ _)); exact BK101.out⟩, ⟨by repeat (first | (with_reducible first | exact HB.out | apply below_alloc | apply pw_below_drewN | apply below_drew1 | refine below_set ?_ GE101.out) | exact HB.out)⟩⟩
                    · rw [if_neg c36] at H
                      have c36b0 : ((strOfNums t128).toList == (strOfNums t135).toList) = false := beq_eq_false_iff_ne.mpr c36
                      have c36b1 : ((strOfNums t128).toList != (strOfNums t135).toList) = true := bne_iff_ne.mpr c36
                      have H' := Aside0.mk H
                      clear H
                      have hcv63 := own_string (P := Try.prog) Try.underlying24 Try.underlying5 Try.underlying9 (Kd.own_of_R HO116.out)
                      have hcv64 := fun m_ : Nat => own_string (P := Try.prog) Try.underlying24 Try.underlying5 Try.underlying9 (Kd.own_of_R (Kd.R_drewN HO116.out m_))
                      have hcv65 := own_string (P := Try.prog) Try.underlying24 Try.underlying5 Try.underlying9 (Kd.own_of_R HO123.out)
                      have hcv66 := fun m_ : Nat => own_string (P := Try.prog) Try.underlying24 Try.underlying5 Try.underlying9 (Kd.own_of_R (Kd.R_drewN HO123.out m_))
                      obtain ⟨Ao67, co67, eo67⟩ := Kd.S_slice HO119.out
                      subst eo67
                      obtain ⟨Ao68, co68, eo68⟩ := Kd.S_slice HO126.out
                      subst eo68
                      go_wp2_with (first | (go_at_call 71; (with_reducible refine (catamaranref12_SameActs.calls kj4 _ _ t117 _ _ t124 true _ ?side1 ?side2 ?side3 ?side4 A33.out).mono ?_); (case side1 => repeat (first | exact (Kd.S_reads' HO119.out).2.2 | (with_reducible refine Kd.C_alloc ?_ _) | (with_reducible refine Kd.C_drewN ?_ _) | (with_reducible refine Kd.C_drew ?_))); (case side2 => exact (Kd.S_reads' HO119.out).2.1); (case side3 => repeat (first | exact (Kd.S_reads' HO126.out).2.2 | (with_reducible refine Kd.C_alloc ?_ _) | (with_reducible refine Kd.C_drewN ?_ _) | (with_reducible refine Kd.C_drew ?_))); (case side4 => exact (Kd.S_reads' HO126.out).2.1); rintro e w' ⟨rfl, ⟨nd, rfl⟩⟩; have hcv69 := own_string (P := Try.prog) Try.underlying24 Try.underlying5 Try.underlying9 (Kd.own_of_R HO130.out); have hcv70 := fun m_ : Nat => own_string (P := Try.prog) Try.underlying24 Try.underlying5 Try.underlying9 (Kd.own_of_R (Kd.R_drewN HO130.out m_)); have hcv71 := own_string (P := Try.prog) Try.underlying24 Try.underlying5 Try.underlying9 (Kd.own_of_R HO137.out); have hcv72 := fun m_ : Nat => own_string (P := Try.prog) Try.underlying24 Try.underlying5 Try.underlying9 (Kd.own_of_R (Kd.R_drewN HO137.out m_))))
                      go_meet
                      case rel => exact ⟨_, (false), (by first | rfl | (simp; done) | (simp [*]; done)), H', ⟨by have := HJ4.out; first | omega | exact Nat.le_refl _⟩, ⟨by (with_reducible repeat (first | apply Kd.R_alloc | apply Kd.R_drewN | apply Kd.R_drew)); exact Kd.R_mono HO107.out (fun _ hk => ⟨hk.1.1.1.1.2, ⟨hk.1.1.1.2, hk.1.2⟩⟩)⟩, ⟨by (with_reducible repeat (first | apply Kd.R_alloc | apply Kd.R_drewN | apply Kd.R_drew)); exact Kd.R_mono HO113.out (fun _ hk => ⟨hk.1.1.1.1, ⟨hk.1.1.1.2, hk.1.2⟩⟩)⟩, ⟨by (with_reducible repeat (first | apply Kd.R_alloc | apply Kd.R_drewN | apply Kd.R_drew)); exact Kd.R_mono HO116.out (fun _ hk => ⟨hk.1.1.1.1.2, ⟨hk.1.1.1.2, hk.1.2⟩⟩)⟩, ⟨by (with_reducible repeat (first | apply Kd.R_alloc | apply Kd.R_drewN | apply Kd.R_drew)); exact Kd.R_mono HO130.out (fun _ hk => ⟨hk.1.1.1.1.2, ⟨hk.1.1.1.2, hk.1.1.2⟩⟩)⟩, ⟨by (with_reducible repeat (first | refine blk_drewN ?_ _ | refine blk_drew ?_ | refine blk_alloc ?_ _)); exact BK101.out⟩, ⟨by repeat (first | (with_reducible first | exact HB.out | apply below_alloc | apply pw_below_drewN | apply below_drew1 | refine below_set ?_ GE101.out) | exact HB.out)⟩⟩
                  · rw [if_neg c35] at H
                    have c35b0 : (t120 == t127) = false := beq_eq_false_iff_ne.mpr c35
                    have c35b1 : (t120 != t127) = true := bne_iff_ne.mpr c35
                    have H' := Aside0.mk H
                    clear H
                    have hcv73 := own_string (P := Try.prog) Try.underlying24 Try.underlying5 Try.underlying9 (Kd.own_of_R HO116.out)
                    have hcv74 := fun m_ : Nat => own_string (P := Try.prog) Try.underlying24 Try.underlying5 Try.underlying9 (Kd.own_of_R (Kd.R_drewN HO116.out m_))
                    have hcv75 := own_string (P := Try.prog) Try.underlying24 Try.underlying5 Try.underlying9 (Kd.own_of_R HO123.out)
                    have hcv76 := fun m_ : Nat => own_string (P := Try.prog) Try.underlying24 Try.underlying5 Try.underlying9 (Kd.own_of_R (Kd.R_drewN HO123.out m_))
                    obtain ⟨Ao77, co77, eo77⟩ := Kd.S_slice HO119.out
                    subst eo77
                    obtain ⟨Ao78, co78, eo78⟩ := Kd.S_slice HO126.out
                    subst eo78
                    go_wp2_with (first | (go_at_call 71; (with_reducible refine (catamaranref12_SameActs.calls kj4 _ _ t117 _ _ t124 true _ ?side1 ?side2 ?side3 ?side4 A33.out).mono ?_); (case side1 => repeat (first | exact (Kd.S_reads' HO119.out).2.2 | (with_reducible refine Kd.C_alloc ?_ _) | (with_reducible refine Kd.C_drewN ?_ _) | (with_reducible refine Kd.C_drew ?_))); (case side2 => exact (Kd.S_reads' HO119.out).2.1); (case side3 => repeat (first | exact (Kd.S_reads' HO126.out).2.2 | (with_reducible refine Kd.C_alloc ?_ _) | (with_reducible refine Kd.C_drewN ?_ _) | (with_reducible refine Kd.C_drew ?_))); (case side4 => exact (Kd.S_reads' HO126.out).2.1); rintro e w' ⟨rfl, ⟨nd, rfl⟩⟩))
                    go_meet
                    case rel => exact ⟨_, (false), (by first | rfl | (simp; done) | (simp [*]; done)), H', ⟨by have := HJ4.out; first | omega | exact Nat.le_refl _⟩, ⟨by (with_reducible repeat (first | apply Kd.R_alloc | apply Kd.R_drewN | apply Kd.R_drew)); exact Kd.R_mono HO107.out (fun _ hk => ⟨hk.1.1.1.1.2, ⟨hk.1.1.1.2, hk.1.2⟩⟩)⟩, ⟨by (with_reducible repeat (first | apply Kd.R_alloc | apply Kd.R_drewN | apply Kd.R_drew)); exact Kd.R_mono HO113.out (fun _ hk => ⟨hk.1.1.1.1, ⟨hk.1.1.1.2, hk.1.2⟩⟩)⟩, ⟨by (with_reducible repeat (first | apply Kd.R_alloc | apply Kd.R_drewN | apply Kd.R_drew)); exact Kd.R_mono HO116.out (fun _ hk => ⟨hk.1.1.1.1.2, ⟨hk.1.1.1.2, hk.1.2⟩⟩)⟩, ⟨by (with_reducible repeat (first | apply Kd.R_alloc | apply Kd.R_drewN | apply Kd.R_drew)); exact Kd.R_mono HO130.out (fun _ hk => ⟨hk.1.1.1.1.2, ⟨hk.1.1.1.2, hk.1.1.2⟩⟩)⟩, ⟨by (with_reducible repeat (first | refine blk_drewN ?_ _ | refine blk_drew ?_ | refine blk_alloc ?_ _)); exact BK101.out⟩, ⟨by repeat (first | (with_reducible first | exact HB.out | apply below_alloc | apply pw_below_drewN | apply below_drew1 | refine below_set ?_ GE101.out) | exact HB.out)⟩⟩
                · replace c34 := Bool.eq_false_iff.mpr c34
                  subst c34
                  have H1 : (catamaranlaw14_DiffCleans.j1 kj4 l2 l3 y105 y111 t114 t128 false) = some r := by rw [if_neg (show ¬ (false = true) by decide)] at H; exact H
                  clear H
                  have H := H1
                  clear H1
                  have H' := Aside0.mk H
                  clear H
                  have hcv79 := own_string (P := Try.prog) Try.underlying24 Try.underlying5 Try.underlying9 (Kd.own_of_R HO116.out)
                  have hcv80 := fun m_ : Nat => own_string (P := Try.prog) Try.underlying24 Try.underlying5 Try.underlying9 (Kd.own_of_R (Kd.R_drewN HO116.out m_))
                  have hcv81 := own_string (P := Try.prog) Try.underlying24 Try.underlying5 Try.underlying9 (Kd.own_of_R HO123.out)
                  have hcv82 := fun m_ : Nat => own_string (P := Try.prog) Try.underlying24 Try.underlying5 Try.underlying9 (Kd.own_of_R (Kd.R_drewN HO123.out m_))
                  obtain ⟨Ao83, co83, eo83⟩ := Kd.S_slice HO119.out
                  subst eo83
                  obtain ⟨Ao84, co84, eo84⟩ := Kd.S_slice HO126.out
                  subst eo84
                  go_wp2_with (first | (go_at_call 71; (with_reducible refine (catamaranref12_SameActs.calls kj4 _ _ t117 _ _ t124 false _ ?side1 ?side2 ?side3 ?side4 A33.out).mono ?_); (case side1 => repeat (first | exact (Kd.S_reads' HO119.out).2.2 | (with_reducible refine Kd.C_alloc ?_ _) | (with_reducible refine Kd.C_drewN ?_ _) | (with_reducible refine Kd.C_drew ?_))); (case side2 => exact (Kd.S_reads' HO119.out).2.1); (case side3 => repeat (first | exact (Kd.S_reads' HO126.out).2.2 | (with_reducible refine Kd.C_alloc ?_ _) | (with_reducible refine Kd.C_drewN ?_ _) | (with_reducible refine Kd.C_drew ?_))); (case side4 => exact (Kd.S_reads' HO126.out).2.1); rintro e w' ⟨rfl, ⟨nd, rfl⟩⟩))
                  go_meet
                  case rel => exact ⟨_, (false), (by first | rfl | (simp; done) | (simp [*]; done)), H', ⟨by have := HJ4.out; first | omega | exact Nat.le_refl _⟩, ⟨by (with_reducible repeat (first | apply Kd.R_alloc | apply Kd.R_drewN | apply Kd.R_drew)); exact Kd.R_mono HO107.out (fun _ hk => ⟨hk.1.1.1.1.2, ⟨hk.1.1.1.2, hk.1.2⟩⟩)⟩, ⟨by (with_reducible repeat (first | apply Kd.R_alloc | apply Kd.R_drewN | apply Kd.R_drew)); exact Kd.R_mono HO113.out (fun _ hk => ⟨hk.1.1.1.1, ⟨hk.1.1.1.2, hk.1.2⟩⟩)⟩, ⟨by (with_reducible repeat (first | apply Kd.R_alloc | apply Kd.R_drewN | apply Kd.R_drew)); exact Kd.R_mono HO116.out (fun _ hk => ⟨hk.1.1.1.1.2, ⟨hk.1.1.1.2, hk.1.2⟩⟩)⟩, ⟨by (with_reducible repeat (first | apply Kd.R_alloc | apply Kd.R_drewN | apply Kd.R_drew)); exact Kd.R_mono HO130.out (fun _ hk => ⟨hk.1.1.1.1.2, ⟨hk.1.1.1.2, hk.1.1.2⟩⟩)⟩, ⟨by (with_reducible repeat (first | refine blk_drewN ?_ _ | refine blk_drew ?_ | refine blk_alloc ?_ _)); exact BK101.out⟩, ⟨by repeat (first | (with_reducible first | exact HB.out | apply below_alloc | apply pw_below_drewN | apply below_drew1 | refine below_set ?_ GE101.out) | exact HB.out)⟩⟩
              · rw [if_neg c32] at H
                have c32b0 : ((strOfNums t114).toList == (strOfNums t121).toList) = false := beq_eq_false_iff_ne.mpr c32
                have c32b1 : ((strOfNums t114).toList != (strOfNums t121).toList) = true := bne_iff_ne.mpr c32
                (first | rw [c32b0] | (simp only [i64_w, i32_w]; rw [c32b0]) | skip)
                have H' := Aside0.mk H
                clear H
                have hcv85 := own_string (P := Try.prog) Try.underlying24 Try.underlying5 Try.underlying9 (Kd.own_of_R HO116.out)
                have hcv86 := fun m_ : Nat => own_string (P := Try.prog) Try.underlying24 Try.underlying5 Try.underlying9 (Kd.own_of_R (Kd.R_drewN HO116.out m_))
                have hcv87 := own_string (P := Try.prog) Try.underlying24 Try.underlying5 Try.underlying9 (Kd.own_of_R HO123.out)
                have hcv88 := fun m_ : Nat => own_string (P := Try.prog) Try.underlying24 Try.underlying5 Try.underlying9 (Kd.own_of_R (Kd.R_drewN HO123.out m_))
                go_wp2
                go_meet
                case rel => exact ⟨_, (false), (by first | rfl | (simp; done) | (simp [*]; done)), H', ⟨by have := HJ4.out; first | omega | exact Nat.le_refl _⟩, ⟨by (with_reducible repeat (first | apply Kd.R_alloc | apply Kd.R_drewN | apply Kd.R_drew)); exact Kd.R_mono HO107.out (fun _ hk => ⟨hk.1.1.1.1.2, ⟨hk.1.1.1.2, hk.1.2⟩⟩)⟩, ⟨by (with_reducible repeat (first | apply Kd.R_alloc | apply Kd.R_drewN | apply Kd.R_drew)); exact Kd.R_mono HO113.out (fun _ hk => ⟨hk.1.1.1.1, ⟨hk.1.1.1.2, hk.1.2⟩⟩)⟩, ⟨by (with_reducible repeat (first | apply Kd.R_alloc | apply Kd.R_drewN | apply Kd.R_drew)); exact Kd.R_mono HO116.out (fun _ hk => ⟨hk.1.1.1.1.2, ⟨hk.1.1.1.2, hk.1.2⟩⟩)⟩, ⟨by (with_reducible repeat (first | apply Kd.R_alloc | apply Kd.R_drewN | apply Kd.R_drew)); exact Kd.R_mono HO130.out (fun _ hk => ⟨hk.1.1.1.1.2, ⟨hk.1.1.1.2, hk.1.1.2⟩⟩)⟩, ⟨by (with_reducible repeat (first | refine blk_drewN ?_ _ | refine blk_drew ?_ | refine blk_alloc ?_ _)); exact BK101.out⟩, ⟨by repeat (first | (with_reducible first | exact HB.out | apply below_alloc | apply pw_below_drewN | apply below_drew1 | refine below_set ?_ GE101.out) | exact HB.out)⟩⟩
            case rest =>
              clear HC15
              try clear c1
              try clear c2
              try clear p2
              try clear c3
              try clear hcv3
              try clear hcv4
              try clear hcv5
              try clear c6
              try clear hcv6
              try clear c7
              try clear c7b0
              try clear c7b1
              try clear hcv7
              try clear c8
              try clear hcv8
              try clear c9
              try clear c10
              try clear c12
              try clear c32
              try clear c32b0
              try clear c32b1
              try clear c34
              try clear c35
              try clear c35b0
              try clear c35b1
              try clear c36
              try clear c36b0
              try clear c36b1
              try clear c38
              try clear hcv39
              try clear hcv40
              try clear hcv41
              try clear hcv42
              try clear hcv45
              try clear hcv46
              try clear hcv47
              try clear hcv48
              try clear hcv51
              try clear hcv52
              try clear hcv53
              try clear hcv54
              try clear hcv57
              try clear hcv58
              try clear hcv59
              try clear hcv60
              try clear hcv63
              try clear hcv64
              try clear hcv65
              try clear hcv66
              try clear c67
              try clear c68
              try clear c69
              try clear hcv69
              try clear c70
              try clear hcv70
              try clear hcv71
              try clear hcv72
              try clear hcv73
              try clear hcv74
              try clear hcv75
              try clear hcv76
              try clear hcv79
              try clear hcv80
              try clear hcv81
              try clear hcv82
              try clear hcv85
              try clear hcv86
              try clear hcv87
              try clear hcv88
              try clear hcz22_0
              try clear hcz22_1
              try clear hcz22_2
              try clear hcz22_3
              try clear hcz22_4
              try clear hcz22_5
              try clear hcz26_0
              try clear hcz26_1
              try clear hcz26_2
              try clear hcz26_3
              try clear hcz26_4
              try clear hcz26_5
              try clear hcz28_0
              try clear hcz28_1
              try clear hcz28_2
              try clear hcz28_3
              try clear hcz28_4
              try clear hcz28_5
              try clear hcz30_0
              try clear hcz30_1
              try clear hcz30_2
              try clear hcz30_3
              try clear hcz30_4
              try clear hcz30_5
              try clear hfz22_0
              try clear hfz22_1
              try clear hfz22_2
              try clear hfz22_3
              try clear hfz22_4
              try clear hfz22_5
              try clear hfz26_0
              try clear hfz26_1
              try clear hfz26_2
              try clear hfz26_3
              try clear hfz26_4
              try clear hfz26_5
              try clear hfz28_0
              try clear hfz28_1
              try clear hfz28_2
              try clear hfz28_3
              try clear hfz28_4
              try clear hfz28_5
              try clear hfz30_0
              try clear hfz30_1
              try clear hfz30_2
              try clear hfz30_3
              try clear hfz30_4
              try clear hfz30_5
              try clear p2
              obtain ⟨kq, x23_14, rfl, HA, HJ14, HO_9, HO_10, HO_11, HO_17, BK101, HB⟩ := hcut
              cases kq with
              | zero => exact absurd HA.out (by simp [catamaranlaw14_DiffCleans.j1])
              | succ kj14 =>
                have H := HA.out
                clear HA
                simp only [catamaranlaw14_DiffCleans.j1] at H
                have H' := Aside0.mk H
                clear H
                go_wp2
                go_loopg [24] kj14 (fun kq v24 w' => ∃ (x11_3 : List Int) (x24_3 : Int), v24 = .int .i64 x24_3 ∧ Aside0 (catamaranlaw14_DiffCleans.l0 kq l2 l3 y105 y111 x11_3 t128 x23_14 x24_3 = some r) ∧ Aside0 (kq ≤ kj14) ∧ Aside0 (Kd.R (Kd.int .u8) 5 w' w.heap.size (fun k_ => some k_ ≠ ((.slice Ao24 y111.length co24) : Value).ownBlock ∧ some k_ ≠ (v115 : Value).ownBlock ∧ some k_ ≠ (v129 : Value).ownBlock) (.slice Ao23 y105.length co23) y105) ∧ Aside0 (Kd.R (Kd.int .u8) 5 w' w.heap.size (fun k_ => some k_ ≠ ((.slice Ao23 y105.length co23) : Value).ownBlock ∧ some k_ ≠ (v115 : Value).ownBlock ∧ some k_ ≠ (v129 : Value).ownBlock) (.slice Ao24 y111.length co24) y111) ∧ Aside0 (Kd.R (Kd.int .u8) 5 w' w.heap.size (fun k_ => some k_ ≠ ((.slice Ao23 y105.length co23) : Value).ownBlock ∧ some k_ ≠ ((.slice Ao24 y111.length co24) : Value).ownBlock ∧ some k_ ≠ (v129 : Value).ownBlock) v115 x11_3) ∧ Aside0 (Kd.R (Kd.int .u8) 5 w' w.heap.size (fun k_ => some k_ ≠ ((.slice Ao23 y105.length co23) : Value).ownBlock ∧ some k_ ≠ ((.slice Ao24 y111.length co24) : Value).ownBlock ∧ some k_ ≠ (v115 : Value).ownBlock) v129 t128) ∧ Aside0 (w'.heap[gb101]? = some (.cells #[.int .i64 a0_0, .int .i64 a0_1, .int .i64 a0_2, .int .i64 a0_3, .int .i64 a0_4, .int .i64 a0_5] 23 (0, 0))) ∧ Aside0 (Below w.heap.size w w'))
                case atStart => exact ⟨(t114), (0), (by first | rfl | (simp; done) | (simp [*]; done)), H', ⟨Nat.le_refl _⟩, ⟨by (with_reducible repeat (first | apply Kd.R_alloc | apply Kd.R_drewN | apply Kd.R_drew)); exact HO_9.out⟩, ⟨by (with_reducible repeat (first | apply Kd.R_alloc | apply Kd.R_drewN | apply Kd.R_drew)); exact HO_10.out⟩, ⟨by (with_reducible repeat (first | apply Kd.R_alloc | apply Kd.R_drewN | apply Kd.R_drew)); exact HO_11.out⟩, ⟨by (with_reducible repeat (first | apply Kd.R_alloc | apply Kd.R_drewN | apply Kd.R_drew)); exact HO_17.out⟩, ⟨by (with_reducible repeat (first | refine blk_drewN ?_ _ | refine blk_drew ?_ | refine blk_alloc ?_ _)); exact BK101.out⟩, ⟨by repeat (first | (with_reducible first | exact HB.out | apply below_alloc | apply pw_below_drewN | apply below_drew1 | refine below_set ?_ GE101.out) | exact HB.out)⟩⟩
                case round =>
                  clear H'
                  try clear c1
                  try clear c2
                  try clear p2
                  try clear c3
                  try clear hcv3
                  try clear hcv4
                  try clear hcv5
                  try clear c6
                  try clear hcv6
                  try clear c7
                  try clear c7b0
                  try clear c7b1
                  try clear hcv7
                  try clear c8
                  try clear hcv8
                  try clear c9
                  try clear c10
                  try clear c12
                  try clear c32
                  try clear c32b0
                  try clear c32b1
                  try clear c34
                  try clear c35
                  try clear c35b0
                  try clear c35b1
                  try clear c36
                  try clear c36b0
                  try clear c36b1
                  try clear c38
                  try clear hcv39
                  try clear hcv40
                  try clear hcv41
                  try clear hcv42
                  try clear hcv45
                  try clear hcv46
                  try clear hcv47
                  try clear hcv48
                  try clear hcv51
                  try clear hcv52
                  try clear hcv53
                  try clear hcv54
                  try clear hcv57
                  try clear hcv58
                  try clear hcv59
                  try clear hcv60
                  try clear hcv63
                  try clear hcv64
                  try clear hcv65
                  try clear hcv66
                  try clear c67
                  try clear c68
                  try clear c69
                  try clear hcv69
                  try clear c70
                  try clear hcv70
                  try clear hcv71
                  try clear hcv72
                  try clear hcv73
                  try clear hcv74
                  try clear hcv75
                  try clear hcv76
                  try clear hcv79
                  try clear hcv80
                  try clear hcv81
                  try clear hcv82
                  try clear hcv85
                  try clear hcv86
                  try clear hcv87
                  try clear hcv88
                  try clear hcz22_0
                  try clear hcz22_1
                  try clear hcz22_2
                  try clear hcz22_3
                  try clear hcz22_4
                  try clear hcz22_5
                  try clear hcz26_0
                  try clear hcz26_1
                  try clear hcz26_2
                  try clear hcz26_3
                  try clear hcz26_4
                  try clear hcz26_5
                  try clear hcz28_0
                  try clear hcz28_1
                  try clear hcz28_2
                  try clear hcz28_3
                  try clear hcz28_4
                  try clear hcz28_5
                  try clear hcz30_0
                  try clear hcz30_1
                  try clear hcz30_2
                  try clear hcz30_3
                  try clear hcz30_4
                  try clear hcz30_5
                  try clear hfz22_0
                  try clear hfz22_1
                  try clear hfz22_2
                  try clear hfz22_3
                  try clear hfz22_4
                  try clear hfz22_5
                  try clear hfz26_0
                  try clear hfz26_1
                  try clear hfz26_2
                  try clear hfz26_3
                  try clear hfz26_4
                  try clear hfz26_5
                  try clear hfz28_0
                  try clear hfz28_1
                  try clear hfz28_2
                  try clear hfz28_3
                  try clear hfz28_4
                  try clear hfz28_5
                  try clear hfz30_0
                  try clear hfz30_1
                  try clear hfz30_2
                  try clear hfz30_3
                  try clear hfz30_4
                  try clear hfz30_5
                  try clear p2
                  obtain ⟨x11_3, x24_3, rfl, HA, HK3, HO_9, HO_10, HO_11, HO_17, BK101, HB⟩ := hrel
                  cases gk with
                  | zero => exact absurd HA.out (by simp [catamaranlaw14_DiffCleans.l0])
                  | succ k3 =>
                    have H := HA.out
                    clear HA
                    simp only [catamaranlaw14_DiffCleans.l0] at H
                    by_cases c89 : x24_3 < (x11_3.length : Int)
                    · rw [if_pos c89] at H
                      have c89b0 : decide (x24_3 < (x11_3.length : Int)) = true := decide_eq_true c89
                      clear c89
                      by_cases c90 : 0 ≤ x24_3
                      · rw [if_pos c90] at H
                        have c90b0 : decide (0 ≤ x24_3) = true := decide_eq_true c90
                        clear c90
                        obtain ⟨y145, hy145⟩ : ∃ y_ : List Int, y_ = (x11_3.set (x24_3 : Int).toNat (((rd x11_3 x24_3) + 1) % 256)) := ⟨_, rfl⟩
                        replace H : (catamaranlaw14_DiffCleans.l0 k3 l2 l3 y105 y111 y145 t128 x23_14 (wrap64 (x24_3 + 1))) = some r := by first | (rw [hy145]; with_reducible exact H) | (have H2_ := (Option.bind_some _ _).symm.trans H; rw [hy145]; with_reducible exact H2_) | (have H2_ := (Option.bind_some _ _).symm.trans H; with_reducible exact H2_) | with_reducible exact H | (rw [hy145]; exact H) | exact H
                        have Ny145 := Aside0.mk hy145
                        clear hy145
                        have H' := Aside0.mk H
                        clear H
                        obtain ⟨Ao92, co92, eo92⟩ := Kd.R_slice HO_11.out
                        subst eo92
                        have p144 : 0 ≤ (x24_3 : Int) := of_decide_eq_true (by first | (with_reducible assumption) | assumption)
                        have q144 : x24_3 < (x11_3.length : Int) := of_decide_eq_true (by first | (with_reducible assumption) | assumption)
                        obtain ⟨ad144, e144, hx144_0⟩ := Kd.at_int (Kd.R_reads' HO_11.out).2.2 x24_3 p144 q144
                        cases e144
                        replace p144 := eq_true p144
                        replace q144 := eq_true q144
                        have p91 : 0 ≤ (x24_3 : Int) := of_decide_eq_true (by first | (with_reducible assumption) | assumption)
                        have q91 : (x24_3 : Int) < ((x11_3.length : Int) : Int) := of_decide_eq_true (by first | (with_reducible assumption) | assumption)
                        obtain ⟨go91, co91, eo91, gb91, gl91, cl91, HG91⟩ := Kd.R_form HO_11.out (by omega)
                        (first | cases eo91 | (injection eo91 with ea_ en_ ec_; (first | subst ea_ | (injection ea_ with ea_; subst ea_)); subst ec_; clear en_))
                        have GB91 := Aside0.mk gb91
                        have GG91 := Aside0.mk HG91
                        clear gb91 gl91 HG91
                        (first | simp only [add_plain] at hx144_0 | skip)
                        obtain ⟨hx91_0, hf91_0⟩ := Kd.R_celln 0 HO_11.out (x24_3 : Int) p91 q91
                        replace p91 := eq_true p91
                        replace q91 := eq_true q91
                        have HP93 := Kd.R_putg HO_11.out (x24_3 : Int) (((rd x11_3 x24_3) + 1) % 256)
                        go_wp2_with (first | ((with_reducible refine gate_store (t := 5) (p := 119) rfl ?_); refine store_event (t := 5) (p := 119) (v := ?vo_w94) (w1 := (wr.setCell ⟨go91, (x24_3 : Int).toNat, none⟩ (.int .u8 (((rd x11_3 x24_3) + 1) % 256)))) ?hg ?ho ?hn ?hr ?_; (case ho => rfl); (case hg => rfl); (case hn => rfl); (case hr => first | (go_simp; done) | (go_simp; rfl)); intro w94 hw; have hg : wr.grownBy w94 (some go91) := (by rw [hw]; exact HP93.2); have hp_ : Kd.R (Kd.int .u8) 5 w94 w.heap.size (fun k_ => some k_ ≠ (.slice Ao23 y105.length co23 : Value).ownBlock ∧ some k_ ≠ (.slice Ao24 y111.length co24 : Value).ownBlock ∧ some k_ ≠ (v129 : Value).ownBlock) (.slice (some ⟨go91, 0, none⟩) x11_3.length co92) y145 := (by rw [hw, Ny145.out]; exact HP93.1); clear HP93; have n0_ := Aside0.mk (Kd.R_after (v := (.slice (some ⟨go91, 0, none⟩) x11_3.length co92)) (v1 := (.slice (some ⟨go91, 0, none⟩) x11_3.length co92)) (ok := (fun k_ => some k_ ≠ (.slice Ao24 y111.length co24 : Value).ownBlock ∧ some k_ ≠ (v129 : Value).ownBlock)) (by (with_reducible repeat (first | apply Kd.R_alloc | apply Kd.R_drewN | apply Kd.R_drew)); exact Kd.R_mono HO_9.out (fun _ hk => ⟨⟨hk.1, hk.2.2⟩, hk.2.1⟩)) hg (.inl rfl)); have n1_ := Aside0.mk (Kd.R_after (v := (.slice (some ⟨go91, 0, none⟩) x11_3.length co92)) (v1 := (.slice (some ⟨go91, 0, none⟩) x11_3.length co92)) (ok := (fun k_ => some k_ ≠ (.slice Ao23 y105.length co23 : Value).ownBlock ∧ some k_ ≠ (v129 : Value).ownBlock)) (by (with_reducible repeat (first | apply Kd.R_alloc | apply Kd.R_drewN | apply Kd.R_drew)); exact Kd.R_mono HO_10.out (fun _ hk => ⟨⟨hk.1, hk.2.2⟩, hk.2.1⟩)) hg (.inl rfl)); have n2_ := Aside0.mk (hp_); have n3_ := Aside0.mk (Kd.R_after (v := (.slice (some ⟨go91, 0, none⟩) x11_3.length co92)) (v1 := (.slice (some ⟨go91, 0, none⟩) x11_3.length co92)) (ok := (fun k_ => some k_ ≠ (.slice Ao23 y105.length co23 : Value).ownBlock ∧ some k_ ≠ (.slice Ao24 y111.length co24 : Value).ownBlock)) (by (with_reducible repeat (first | apply Kd.R_alloc | apply Kd.R_drewN | apply Kd.R_drew)); exact Kd.R_mono HO_17.out (fun _ hk => ⟨⟨hk.1, hk.2.1⟩, hk.2.2⟩)) hg (.inl rfl)); have n4_ := Aside0.mk (blk_grown (g := gb101) (o := .cells #[.int .i64 a0_0, .int .i64 a0_1, .int .i64 a0_2, .int .i64 a0_3, .int .i64 a0_4, .int .i64 a0_5] 23 (0, 0)) (by (with_reducible repeat (first | refine blk_drewN ?_ _ | refine blk_drew ?_ | refine blk_alloc ?_ _)); exact BK101.out) hg (Kd.R_ne HO_11.out BK101.out (by decide))); have n5_ := Aside0.mk ((by rw [hw]; exact below_set (HB.out) GB91.out : Below w.heap.size w w94)); clear HO_9; clear HO_10; clear HO_11; clear HO_17; clear BK101; clear HB; have HO_9 := n0_; have HO_10 := n1_; have HO_11 := n2_; have HO_17 := n3_; have BK101 := n4_; have HB := n5_; clear n0_ n1_ n2_ n3_ n4_ n5_; clear hg hw hp_))
                        go_roundg k3
                        case measure => have := HJ4.out; have := HJ14.out; have := HK3.out; omega
                        case rel => exact ⟨(y145), (wrap64 (x24_3 + 1)), (by first | rfl | (simp; done) | (simp [*]; done)), H', ⟨by have := HJ4.out; have := HJ14.out; have := HK3.out; omega⟩, ⟨by (with_reducible repeat (first | apply Kd.R_alloc | apply Kd.R_drewN | apply Kd.R_drew)); exact Kd.R_mono HO_9.out (fun _ hk => ⟨hk.1.1, ⟨hk.2, hk.1.2⟩⟩)⟩, ⟨by (with_reducible repeat (first | apply Kd.R_alloc | apply Kd.R_drewN | apply Kd.R_drew)); exact Kd.R_mono HO_10.out (fun _ hk => ⟨hk.1.1, ⟨hk.2, hk.1.2⟩⟩)⟩, ⟨by (with_reducible repeat (first | apply Kd.R_alloc | apply Kd.R_drewN | apply Kd.R_drew)); exact HO_11.out⟩, ⟨by (with_reducible repeat (first | apply Kd.R_alloc | apply Kd.R_drewN | apply Kd.R_drew)); exact Kd.R_mono HO_17.out (fun _ hk => ⟨hk.1.1, ⟨hk.1.2, hk.2⟩⟩)⟩, ⟨by (with_reducible repeat (first | refine blk_drewN ?_ _ | refine blk_drew ?_ | refine blk_alloc ?_ _)); exact BK101.out⟩, ⟨by repeat (first | (with_reducible first | exact HB.out | apply below_alloc | apply pw_below_drewN | apply below_drew1 | refine below_set ?_ GE101.out) | exact HB.out)⟩⟩
                      · rw [if_neg c90] at H
                        exact absurd H (by simp)
                    · rw [if_neg c89] at H
                      have c89b0 : decide (x24_3 < (x11_3.length : Int)) = false := decide_eq_false c89
                      clear c89
                      have H' := Aside0.mk H
                      clear H
                      obtain ⟨Ao95, co95, eo95⟩ := Kd.R_slice HO_11.out
                      subst eo95
                      go_wp2
                      go_loopg [25] k3 (fun kq v25 w' => ∃ (x17_4 : List Int) (x25_4 : Int), v25 = .int .i64 x25_4 ∧ Aside0 (catamaranlaw14_DiffCleans.l1 kq l2 l3 y105 y111 x17_4 x23_14 x25_4 = some r) ∧ Aside0 (kq ≤ k3) ∧ Aside0 (Kd.R (Kd.int .u8) 5 w' w.heap.size (fun k_ => some k_ ≠ ((.slice Ao24 y111.length co24) : Value).ownBlock ∧ some k_ ≠ (v129 : Value).ownBlock) (.slice Ao23 y105.length co23) y105) ∧ Aside0 (Kd.R (Kd.int .u8) 5 w' w.heap.size (fun k_ => some k_ ≠ ((.slice Ao23 y105.length co23) : Value).ownBlock ∧ some k_ ≠ (v129 : Value).ownBlock) (.slice Ao24 y111.length co24) y111) ∧ Aside0 (Kd.R (Kd.int .u8) 5 w' w.heap.size (fun k_ => some k_ ≠ ((.slice Ao23 y105.length co23) : Value).ownBlock ∧ some k_ ≠ ((.slice Ao24 y111.length co24) : Value).ownBlock) v129 x17_4) ∧ Aside0 (w'.heap[gb101]? = some (.cells #[.int .i64 a0_0, .int .i64 a0_1, .int .i64 a0_2, .int .i64 a0_3, .int .i64 a0_4, .int .i64 a0_5] 23 (0, 0))) ∧ Aside0 (Below w.heap.size w w'))
                      case atStart => exact ⟨(t128), (0), (by first | rfl | (simp; done) | (simp [*]; done)), H', ⟨Nat.le_refl _⟩, ⟨by (with_reducible repeat (first | apply Kd.R_alloc | apply Kd.R_drewN | apply Kd.R_drew)); exact Kd.R_mono HO_9.out (fun _ hk => ⟨hk.1, hk.2.2⟩)⟩, ⟨by (with_reducible repeat (first | apply Kd.R_alloc | apply Kd.R_drewN | apply Kd.R_drew)); exact Kd.R_mono HO_10.out (fun _ hk => ⟨hk.1, hk.2.2⟩)⟩, ⟨by (with_reducible repeat (first | apply Kd.R_alloc | apply Kd.R_drewN | apply Kd.R_drew)); exact Kd.R_mono HO_17.out (fun _ hk => ⟨hk.1, hk.2.1⟩)⟩, ⟨by (with_reducible repeat (first | refine blk_drewN ?_ _ | refine blk_drew ?_ | refine blk_alloc ?_ _)); exact BK101.out⟩, ⟨by repeat (first | (with_reducible first | exact HB.out | apply below_alloc | apply pw_below_drewN | apply below_drew1 | refine below_set ?_ GE101.out) | exact HB.out)⟩⟩
                      case round =>
                        clear H'
                        try clear c1
                        try clear p1
                        try clear q1
                        try clear hx1
                        try clear c2
                        try clear p2
                        try clear c3
                        try clear hcv3
                        try clear hcv4
                        try clear hcv5
                        try clear c6
                        try clear p6
                        try clear hcv6
                        try clear c7
                        try clear c7b0
                        try clear c7b1
                        try clear hcv7
                        try clear c8
                        try clear hcv8
                        try clear c9
                        try clear p9
                        try clear q9
                        try clear hx9
                        try clear hf9
                        try clear c10
                        try clear c12
                        try clear p14
                        try clear q14
                        try clear hx14
                        try clear c32
                        try clear c32b0
                        try clear c32b1
                        try clear c34
                        try clear c35
                        try clear c35b0
                        try clear c35b1
                        try clear c36
                        try clear c36b0
                        try clear c36b1
                        try clear c38
                        try clear hcv39
                        try clear hcv40
                        try clear hcv41
                        try clear hcv42
                        try clear hcv45
                        try clear hcv46
                        try clear hcv47
                        try clear hcv48
                        try clear hcv51
                        try clear hcv52
                        try clear hcv53
                        try clear hcv54
                        try clear hcv57
                        try clear hcv58
                        try clear hcv59
                        try clear hcv60
                        try clear hcv63
                        try clear p64
                        try clear hcv64
                        try clear hcv65
                        try clear hcv66
                        try clear c67
                        try clear c68
                        try clear c69
                        try clear hcv69
                        try clear c70
                        try clear hcv70
                        try clear hcv71
                        try clear hcv72
                        try clear hcv73
                        try clear hcv74
                        try clear hcv75
                        try clear hcv76
                        try clear hcv79
                        try clear hcv80
                        try clear hcv81
                        try clear hcv82
                        try clear hcv85
                        try clear hcv86
                        try clear hcv87
                        try clear hcv88
                        try clear c89
                        try clear c89b0
                        try clear c90
                        try clear c90b0
                        try clear p91
                        try clear q91
                        try clear hx91
                        try clear hf91
                        try clear hcz22_0
                        try clear hcz22_1
                        try clear hcz22_2
                        try clear hcz22_3
                        try clear hcz22_4
                        try clear hcz22_5
                        try clear hcz26_0
                        try clear hcz26_1
                        try clear hcz26_2
                        try clear hcz26_3
                        try clear hcz26_4
                        try clear hcz26_5
                        try clear hcz28_0
                        try clear hcz28_1
                        try clear hcz28_2
                        try clear hcz28_3
                        try clear hcz28_4
                        try clear hcz28_5
                        try clear hcz30_0
                        try clear hcz30_1
                        try clear hcz30_2
                        try clear hcz30_3
                        try clear hcz30_4
                        try clear hcz30_5
                        try clear hfz22_0
                        try clear hfz22_1
                        try clear hfz22_2
                        try clear hfz22_3
                        try clear hfz22_4
                        try clear hfz22_5
                        try clear hfz26_0
                        try clear hfz26_1
                        try clear hfz26_2
                        try clear hfz26_3
                        try clear hfz26_4
                        try clear hfz26_5
                        try clear hfz28_0
                        try clear hfz28_1
                        try clear hfz28_2
                        try clear hfz28_3
                        try clear hfz28_4
                        try clear hfz28_5
                        try clear hfz30_0
                        try clear hfz30_1
                        try clear hfz30_2
                        try clear hfz30_3
                        try clear hfz30_4
                        try clear hfz30_5
                        try clear hx144_0
                        try clear hx91_0
                        try clear p144
                        try clear p2
                        try clear p91
                        try clear q144
                        try clear q91
                        obtain ⟨x17_4, x25_4, rfl, HA, HK4, HO_9, HO_10, HO_17, BK101, HB⟩ := hrel
                        cases gk with
                        | zero => exact absurd HA.out (by simp [catamaranlaw14_DiffCleans.l1])
                        | succ k4 =>
                          have H := HA.out
                          clear HA
                          simp only [catamaranlaw14_DiffCleans.l1] at H
                          by_cases c96 : x25_4 < (x17_4.length : Int)
                          · rw [if_pos c96] at H
                            have c96b0 : decide (x25_4 < (x17_4.length : Int)) = true := decide_eq_true c96
                            clear c96
                            by_cases c97 : 0 ≤ x25_4
                            · rw [if_pos c97] at H
                              have c97b0 : decide (0 ≤ x25_4) = true := decide_eq_true c97
                              clear c97
                              obtain ⟨y147, hy147⟩ : ∃ y_ : List Int, y_ = (x17_4.set (x25_4 : Int).toNat (((rd x17_4 x25_4) + 1) % 256)) := ⟨_, rfl⟩
                              replace H : (catamaranlaw14_DiffCleans.l1 k4 l2 l3 y105 y111 y147 x23_14 (wrap64 (x25_4 + 1))) = some r := by first | (rw [hy147]; with_reducible exact H) | (have H2_ := (Option.bind_some _ _).symm.trans H; rw [hy147]; with_reducible exact H2_) | (have H2_ := (Option.bind_some _ _).symm.trans H; with_reducible exact H2_) | with_reducible exact H | (rw [hy147]; exact H) | exact H
                              have Ny147 := Aside0.mk hy147
                              clear hy147
                              have H' := Aside0.mk H
                              clear H
                              obtain ⟨Ao99, co99, eo99⟩ := Kd.R_slice HO_17.out
                              subst eo99
                              have p146 : 0 ≤ (x25_4 : Int) := of_decide_eq_true (by first | (with_reducible assumption) | assumption)
                              have q146 : x25_4 < (x17_4.length : Int) := of_decide_eq_true (by first | (with_reducible assumption) | assumption)
                              obtain ⟨ad146, e146, hx146_0⟩ := Kd.at_int (Kd.R_reads' HO_17.out).2.2 x25_4 p146 q146
                              cases e146
                              replace p146 := eq_true p146
                              replace q146 := eq_true q146
                              have p98 : 0 ≤ (x25_4 : Int) := of_decide_eq_true (by first | (with_reducible assumption) | assumption)
                              have q98 : (x25_4 : Int) < ((x17_4.length : Int) : Int) := of_decide_eq_true (by first | (with_reducible assumption) | assumption)
                              obtain ⟨go98, co98, eo98, gb98, gl98, cl98, HG98⟩ := Kd.R_form HO_17.out (by omega)
                              (first | cases eo98 | (injection eo98 with ea_ en_ ec_; (first | subst ea_ | (injection ea_ with ea_; subst ea_)); subst ec_; clear en_))
                              have GB98 := Aside0.mk gb98
                              have GG98 := Aside0.mk HG98
                              clear gb98 gl98 HG98
                              (first | simp only [add_plain] at hx146_0 | skip)
                              obtain ⟨hx98_0, hf98_0⟩ := Kd.R_celln 0 HO_17.out (x25_4 : Int) p98 q98
                              replace p98 := eq_true p98
                              replace q98 := eq_true q98
                              have HP100 := Kd.R_putg HO_17.out (x25_4 : Int) (((rd x17_4 x25_4) + 1) % 256)
                              go_wp2_with (first | ((with_reducible refine gate_store (t := 5) (p := 133) rfl ?_); refine store_event (t := 5) (p := 133) (v := ?vo_w101) (w1 := (wr.setCell ⟨go98, (x25_4 : Int).toNat, none⟩ (.int .u8 (((rd x17_4 x25_4) + 1) % 256)))) ?hg ?ho ?hn ?hr ?_; (case ho => rfl); (case hg => rfl); (case hn => rfl); (case hr => first | (go_simp; done) | (go_simp; rfl)); intro w101 hw; have hg : wr.grownBy w101 (some go98) := (by rw [hw]; exact HP100.2); have hp_ : Kd.R (Kd.int .u8) 5 w101 w.heap.size (fun k_ => some k_ ≠ (.slice Ao23 y105.length co23 : Value).ownBlock ∧ some k_ ≠ (.slice Ao24 y111.length co24 : Value).ownBlock) (.slice (some ⟨go98, 0, none⟩) x17_4.length co99) y147 := (by rw [hw, Ny147.out]; exact HP100.1); clear HP100; have n0_ := Aside0.mk (Kd.R_after (v := (.slice (some ⟨go98, 0, none⟩) x17_4.length co99)) (v1 := (.slice (some ⟨go98, 0, none⟩) x17_4.length co99)) (ok := (fun k_ => some k_ ≠ (.slice Ao24 y111.length co24 : Value).ownBlock)) (by (with_reducible repeat (first | apply Kd.R_alloc | apply Kd.R_drewN | apply Kd.R_drew)); exact HO_9.out) hg (.inl rfl)); have n1_ := Aside0.mk (Kd.R_after (v := (.slice (some ⟨go98, 0, none⟩) x17_4.length co99)) (v1 := (.slice (some ⟨go98, 0, none⟩) x17_4.length co99)) (ok := (fun k_ => some k_ ≠ (.slice Ao23 y105.length co23 : Value).ownBlock)) (by (with_reducible repeat (first | apply Kd.R_alloc | apply Kd.R_drewN | apply Kd.R_drew)); exact HO_10.out) hg (.inl rfl)); have n2_ := Aside0.mk (hp_); have n3_ := Aside0.mk (blk_grown (g := gb101) (o := .cells #[.int .i64 a0_0, .int .i64 a0_1, .int .i64 a0_2, .int .i64 a0_3, .int .i64 a0_4, .int .i64 a0_5] 23 (0, 0)) (by (with_reducible repeat (first | refine blk_drewN ?_ _ | refine blk_drew ?_ | refine blk_alloc ?_ _)); exact BK101.out) hg (Kd.R_ne HO_17.out BK101.out (by decide))); have n4_ := Aside0.mk ((by rw [hw]; exact below_set (HB.out) GB98.out : Below w.heap.size w w101)); clear HO_9; clear HO_10; clear HO_17; clear BK101; clear HB; have HO_9 := n0_; have HO_10 := n1_; have HO_17 := n2_; have BK101 := n3_; have HB := n4_; clear n0_ n1_ n2_ n3_ n4_; clear hg hw hp_))
                              go_roundg k4
                              case measure => have := HJ4.out; have := HJ14.out; have := HK3.out; have := HK4.out; omega
                              case rel => exact ⟨(y147), (wrap64 (x25_4 + 1)), (by first | rfl | (simp; done) | (simp [*]; done)), H', ⟨by have := HJ4.out; have := HJ14.out; have := HK3.out; have := HK4.out; omega⟩, ⟨by (with_reducible repeat (first | apply Kd.R_alloc | apply Kd.R_drewN | apply Kd.R_drew)); exact HO_9.out⟩, ⟨by (with_reducible repeat (first | apply Kd.R_alloc | apply Kd.R_drewN | apply Kd.R_drew)); exact HO_10.out⟩, ⟨by (with_reducible repeat (first | apply Kd.R_alloc | apply Kd.R_drewN | apply Kd.R_drew)); exact HO_17.out⟩, ⟨by (with_reducible repeat (first | refine blk_drewN ?_ _ | refine blk_drew ?_ | refine blk_alloc ?_ _)); exact BK101.out⟩, ⟨by repeat (first | (with_reducible first | exact HB.out | apply below_alloc | apply pw_below_drewN | apply below_drew1 | refine below_set ?_ GE101.out) | exact HB.out)⟩⟩
                            · rw [if_neg c97] at H
                              exact absurd H (by simp)
                          · rw [if_neg c96] at H
                            have c96b0 : decide (x25_4 < (x17_4.length : Int)) = false := decide_eq_false c96
                            clear c96
                            by_cases c102 : x23_14 = true
                            · subst c102
                              have H1 : (if (strOfNums y105).toList = (strOfNums l2).toList then (some ((strOfNums y111).toList == (strOfNums l3).toList)) else (some false)) = some r := by rw [if_pos rfl] at H; exact H
                              clear H
                              have H := H1
                              clear H1
                              by_cases c103 : (strOfNums y105).toList = (strOfNums l2).toList
                              · rw [if_pos c103] at H
                                have c103b0 : ((strOfNums y105).toList == (strOfNums l2).toList) = true := beq_iff_eq.mpr c103
                                have c103b1 : ((strOfNums y105).toList != (strOfNums l2).toList) = false := bne_eq_false_iff_eq.mpr c103
                                clear c103
                                obtain rfl := Option.some.inj H
                                obtain ⟨Ao104, co104, eo104⟩ := Kd.R_slice HO_17.out
                                subst eo104
                                have hcv105 := own_string (P := Try.prog) Try.underlying24 Try.underlying5 Try.underlying9 (Kd.own_of_R HO_9.out)
                                have hcv106 := fun m_ : Nat => own_string (P := Try.prog) Try.underlying24 Try.underlying5 Try.underlying9 (Kd.own_of_R (Kd.R_drewN HO_9.out m_))
                                have hcv107 := Kd.C_string (P := Try.prog) (A := A2) (c := c2) Try.underlying24 Try.underlying5 Try.underlying9 (Kd.C_below HR2.out HB.out)
                                have hcv108 := fun m_ : Nat => Kd.C_string (P := Try.prog) (A := A2) (c := c2) Try.underlying24 Try.underlying5 Try.underlying9 (Kd.C_drewN (Kd.C_below HR2.out HB.out) m_)
                                have hcv109 := own_string (P := Try.prog) Try.underlying24 Try.underlying5 Try.underlying9 (Kd.own_of_R HO_10.out)
                                have hcv110 := fun m_ : Nat => own_string (P := Try.prog) Try.underlying24 Try.underlying5 Try.underlying9 (Kd.own_of_R (Kd.R_drewN HO_10.out m_))
                                have hcv111 := Kd.C_string (P := Try.prog) (A := A3) (c := c3) Try.underlying24 Try.underlying5 Try.underlying9 (Kd.C_below HR3.out HB.out)
                                have hcv112 := fun m_ : Nat => Kd.C_string (P := Try.prog) (A := A3) (c := c3) Try.underlying24 Try.underlying5 Try.underlying9 (Kd.C_drewN (Kd.C_below HR3.out HB.out) m_)
                                go_wp2
                                go_ret
                                exact ⟨by first | rfl | (simp [errW_none, errW_some] <;> rfl) | (simp [*, errW_none, errW_some] <;> rfl), by repeat (first | (with_reducible first | exact HB.out | apply below_alloc | apply pw_below_drewN | apply below_drew1 | refine below_set ?_ GE101.out) | exact HB.out)⟩
                              · rw [if_neg c103] at H
                                have c103b0 : ((strOfNums y105).toList == (strOfNums l2).toList) = false := beq_eq_false_iff_ne.mpr c103
                                have c103b1 : ((strOfNums y105).toList != (strOfNums l2).toList) = true := bne_iff_ne.mpr c103
                                obtain rfl := Option.some.inj H
                                obtain ⟨Ao113, co113, eo113⟩ := Kd.R_slice HO_17.out
                                subst eo113
                                have hcv114 := own_string (P := Try.prog) Try.underlying24 Try.underlying5 Try.underlying9 (Kd.own_of_R HO_9.out)
                                have hcv115 := fun m_ : Nat => own_string (P := Try.prog) Try.underlying24 Try.underlying5 Try.underlying9 (Kd.own_of_R (Kd.R_drewN HO_9.out m_))
                                have hcv116 := Kd.C_string (P := Try.prog) (A := A2) (c := c2) Try.underlying24 Try.underlying5 Try.underlying9 (Kd.C_below HR2.out HB.out)
                                have hcv117 := fun m_ : Nat => Kd.C_string (P := Try.prog) (A := A2) (c := c2) Try.underlying24 Try.underlying5 Try.underlying9 (Kd.C_drewN (Kd.C_below HR2.out HB.out) m_)
                                go_wp2
                                go_ret
                                exact ⟨by first | rfl | (simp [errW_none, errW_some] <;> rfl) | (simp [*, errW_none, errW_some] <;> rfl), by repeat (first | (with_reducible first | exact HB.out | apply below_alloc | apply pw_below_drewN | apply below_drew1 | refine below_set ?_ GE101.out) | exact HB.out)⟩
                            · replace c102 := Bool.eq_false_iff.mpr c102
                              subst c102
                              have H1 : (some false) = some r := by rw [if_neg (show ¬ (false = true) by decide)] at H; exact H
                              clear H
                              have H := H1
                              clear H1
                              obtain rfl := Option.some.inj H
                              obtain ⟨Ao118, co118, eo118⟩ := Kd.R_slice HO_17.out
                              subst eo118
                              go_wp2
                              go_ret
                              exact ⟨by first | rfl | (simp [errW_none, errW_some] <;> rfl) | (simp [*, errW_none, errW_some] <;> rfl), by repeat (first | (with_reducible first | exact HB.out | apply below_alloc | apply pw_below_drewN | apply below_drew1 | refine below_set ?_ GE101.out) | exact HB.out)⟩
          · rw [if_neg c10] at H
            exact absurd H (by simp)
        · rw [if_neg c9] at H
          exact absurd H (by simp)
end Go.Proofs.Ytpbnppeodoflcaa.PDiffCleans
end
section
namespace Go.Proofs.Ytpbnppeodoflcaa.PDiffCleans
open Go.RowKit Go.Proofs.Ytpbnppeodoflcaa.PDf Go.Proofs.Ytpbnppeodoflcaa.PureD Go.Proofs.Ytpbnppeodoflcaa.Pure Go.Proofs.Ytpbnppeodoflcaa.E Go.Proofs.YtpbnppeodoflcaaW.PrintWords Go.Proofs.YtpbnppeodoflcaaW.PrintLast Go.Proofs.YtpbnppeodoflcaaW.PrintMore
set_option linter.unusedVariables false
set_option linter.unusedSimpArgs false
theorem raise_two (x2 x3 : List Int) (d : Nat) : ∀ (k i : Nat) (r : List Int), r.length ≤ 1000 → i + d = r.length → d < k → catamaranlaw14_DiffCleans.l1 k x2 x3 x2 x3 r true (i : Int) = some true := by
  induction d with
  | zero =>
    intro k i r hr hi hk
    obtain ⟨k, rfl⟩ : ∃ m, k = m + 1 := ⟨k - 1, by omega⟩
    show (if (i : Int) < (r.length : Int) then _ else _) = _
    rw [if_neg (by omega), if_pos rfl, if_pos rfl, beq_self_eq_true]
  | succ d ih =>
    intro k i r hr hi hk
    obtain ⟨k, rfl⟩ : ∃ m, k = m + 1 := ⟨k - 1, by omega⟩
    show (if (i : Int) < (r.length : Int) then _ else _) = _
    rw [if_pos (by omega), if_pos (by omega), wrap64_id (x := (i : Int) + 1) (by omega) (by omega), show ((i : Int) + 1) = ((i + 1 : Nat) : Int) from by omega]
    exact ih k (i + 1) _ (by rw [List.length_set]; omega) (by rw [List.length_set]; omega) (by omega)
theorem raise_one (x2 x3 q : List Int) (hq : q.length ≤ 200) (d : Nat) : ∀ (k i : Nat) (r : List Int), r.length ≤ 1000 → i + d = r.length → d + 202 < k → catamaranlaw14_DiffCleans.l0 k x2 x3 x2 x3 r q true (i : Int) = some true := by
  induction d with
  | zero =>
    intro k i r hr hi hk
    obtain ⟨k, rfl⟩ : ∃ m, k = m + 1 := ⟨k - 1, by omega⟩
    show (if (i : Int) < (r.length : Int) then _ else _) = _
    rw [if_neg (by omega)]
    exact raise_two x2 x3 q.length k 0 q (by omega) (by omega) (by omega)
  | succ d ih =>
    intro k i r hr hi hk
    obtain ⟨k, rfl⟩ : ∃ m, k = m + 1 := ⟨k - 1, by omega⟩
    show (if (i : Int) < (r.length : Int) then _ else _) = _
    rw [if_pos (by omega), if_pos (by omega), wrap64_id (x := (i : Int) + 1) (by omega) (by omega), show ((i : Int) + 1) = ((i + 1 : Nat) : Int) from by omega]
    exact ih k (i + 1) _ (by rw [List.length_set]; omega) (by rw [List.length_set]; omega) (by omega)
theorem j0_of (k : Nat) (x1 : Int) (x2 x3 : List Int) (c0 c1 c2 c3 c4 c5 : Int) (R S : List Int × List Act_ × Int) (g1 : x2.length ≤ 100) (g2 : x3.length ≤ 100) (hm : diff_Clean.f c0 c1 c2 c3 c4 c5 x1 x2 x3 = some R) (hr : catamaranref14_Clean.f k c0 c1 c2 c3 c4 c5 x1 x2 x3 = some R)
    (hm2 : diff_Fill.f c0 c1 c2 c3 c4 c5 x1 x2 = some S) (hr2 : catamaranref14_Fill.f k c0 c1 c2 c3 c4 c5 x1 x2 = some S)
    (hs : catamaranref12_SameActs.f k R.2.1 R.2.1 = some true) (hs2 : catamaranref12_SameActs.f k S.2.1 S.2.1 = some true) (hl : catamaranlaw14_DiffCleans.j1 k x2 x3 x2 x3 R.1 S.1 true = some true) :
    catamaranlaw14_DiffCleans.j0 (k + 1) x1 x2 x3 false c0 c1 c2 c3 c4 c5 = some true := by
  show (if false = true then some true else ((some (([] : List Int) : List Int)).bind fun y102 => (if y102.length + x2.length < 140737488355328 then ((some (y102 ++ x2 : List Int)).bind fun y105 => ((some (([] : List Int) : List Int)).bind fun y108 => (if y108.length + x3.length < 140737488355328 then ((some (y108 ++ x3 : List Int)).bind fun y111 => ((diff_Clean.f c0 c1 c2 c3 c4 c5 x1 y105 y111).bind fun bt114 => ((catamaranref14_Clean.f k c0 c1 c2 c3 c4 c5 x1 x2 x3).bind fun bt121 => ((diff_Fill.f c0 c1 c2 c3 c4 c5 x1 y105).bind fun bt128 => ((catamaranref14_Fill.f k c0 c1 c2 c3 c4 c5 x1 x2).bind fun bt135 => (if (strOfNums bt114.1).toList = (strOfNums bt121.1).toList then ((catamaranref12_SameActs.f k bt114.2.1 bt121.2.1).bind fun t142 => (if t142 = true then (if bt114.2.2 = bt121.2.2 then (if (strOfNums bt128.1).toList = (strOfNums bt135.1).toList then ((catamaranref12_SameActs.f k bt128.2.1 bt135.2.1).bind fun t143 => (if t143 = true then (catamaranlaw14_DiffCleans.j1 k x2 x3 y105 y111 bt114.1 bt128.1 (bt128.2.2 == bt135.2.2)) else (catamaranlaw14_DiffCleans.j1 k x2 x3 y105 y111 bt114.1 bt128.1 false))) else (catamaranlaw14_DiffCleans.j1 k x2 x3 y105 y111 bt114.1 bt128.1 false)) else (catamaranlaw14_DiffCleans.j1 k x2 x3 y105 y111 bt114.1 bt128.1 false)) else (catamaranlaw14_DiffCleans.j1 k x2 x3 y105 y111 bt114.1 bt128.1 false))) else (catamaranlaw14_DiffCleans.j1 k x2 x3 y105 y111 bt114.1 bt128.1 false))))))) else (none)))) else (none)))) = some true
  rw [if_neg (by simp), Option.bind_some, if_pos (by simp; omega), Option.bind_some, Option.bind_some, if_pos (by simp; omega), Option.bind_some, List.nil_append, List.nil_append, hm, Option.bind_some, hr, Option.bind_some, hm2, Option.bind_some, hr2, Option.bind_some, if_pos rfl, hs, Option.bind_some, if_pos rfl, if_pos rfl, if_pos rfl, hs2, Option.bind_some, if_pos rfl, beq_self_eq_true]
  exact hl
theorem j1_of (k : Nat) (x2 x3 r q : List Int) (h : catamaranlaw14_DiffCleans.l0 k x2 x3 x2 x3 r q true 0 = some true) : catamaranlaw14_DiffCleans.j1 (k + 1) x2 x3 x2 x3 r q true = some true := h
theorem holds (c0 c1 c2 c3 c4 c5 a1 : Int) (l2 l3 : List Int) (h0 : (Lit.int .i64 c0).wf = true) (ha : okB l2 = true) (hb : okB l3 = true) : catamaranlaw14_DiffCleans.f 1000 c0 c1 c2 c3 c4 c5 a1 l2 l3 = some true := by
  have hj : ∀ b : Bool, (b = false → l2.length ≤ 100 ∧ l3.length ≤ 100) → catamaranlaw14_DiffCleans.j0 1000 a1 l2 l3 b c0 c1 c2 c3 c4 c5 = some true := fun b hb' => by
    cases b with
    | true => rfl
    | false =>
      obtain ⟨g1, g2⟩ := hb' rfl
      obtain ⟨n1, n2⟩ := cleanR_len c0 c1 c2 c3 c4 c5 a1 l2 l3 g1
      obtain ⟨m1, m2⟩ := fillR_len c0 c1 c2 c3 c4 c5 a1 l2 g1
      exact j0_of 999 a1 l2 l3 c0 c1 c2 c3 c4 c5 _ _ g1 g2 (clean_own c0 c1 c2 c3 c4 c5 a1 l2 l3 h0 ha hb) (clean_ref c0 c1 c2 c3 c4 c5 a1 l2 l3 h0 ha hb 939) (fill_own c0 c1 c2 c3 c4 c5 a1 l2 h0 ha) (fill_ref c0 c1 c2 c3 c4 c5 a1 l2 h0 ha 939) (same_self _ n2 799) (same_self _ m2 799) (j1_of 998 l2 l3 _ _ (raise_one l2 l3 _ (by omega) _ 998 0 _ (by omega) (Nat.zero_add _) (by omega)))
  unfold catamaranlaw14_DiffCleans.f
  by_cases h : (l2.length : Int) > 100
  · rw [if_pos h]
    exact hj true (by simp)
  · rw [if_neg h]
    exact hj _ (fun e => ⟨by omega, by have := of_decide_eq_false e; omega⟩)
end Go.Proofs.Ytpbnppeodoflcaa.PDiffCleans
end
section
namespace Go.Proofs.Ytpbnppeodoflcaa.E
open Go.ChangeShapes Go.WideShapes Go.ChangeAt Go.RowKit
set_option linter.unusedVariables false
set_option maxRecDepth 100000 in
set_option linter.constructorNameAsVariable false in
theorem open_cfg {H : Type} {enc : TypeId × Value → H} {W : World} {base : Nat} {sp : Nat → Bool} {held : Bool} {r : Reach} {b0 : Nat} {v : Value} {d : DataW H} {ps : List MemPlace}
    (hv : Value.okWide Try.prog W r b0 23 v) (h : DataW.Trod enc Try.prog W base sp held 23 v d ps) :
    ∃ c0 c1 c2 c3 c4 c5 : Int, v = .agg #[.int .i64 c0, .int .i64 c1, .int .i64 c2, .int .i64 c3, .int .i64 c4, .int .i64 c5] ∧ (Lit.int .i64 c0).wf = true ∧ (Lit.int .i64 c1).wf = true ∧ (Lit.int .i64 c2).wf = true ∧ (Lit.int .i64 c3).wf = true ∧ (Lit.int .i64 c4).wf = true ∧ (Lit.int .i64 c5).wf = true := by
  obtain ⟨cs, rfl, hsz⟩ := okWide_struct Try.underlying23 hv
  obtain ⟨fuel, hf⟩ := h
  obtain ⟨xs, n, _, _, hl, hlen, hfs⟩ := DataW.trod_struct Try.underlying23 hf
  have hcells : Try.prog.cellsOf 23 = 6 := by kernel_rfl
  have hone : Try.prog.cellsOf 3 = 1 := by kernel_rfl
  rw [hcells] at hl
  simp only [Value.cells] at hl hfs
  obtain ⟨l⟩ := cs
  simp only [] at hl hfs
  match l, hl with
  | [v0, v1, v2, v3, v4, v5], _ =>
    match xs, hlen with
    | [y0, y1, y2, y3, y4, y5], _ =>
      obtain ⟨c0, h0, _, w0⟩ := DataW.trod_int Try.underlying3 (by have := hfs 0 _ rfl; simpa [hone] using this)
      obtain ⟨c1, h1, _, w1⟩ := DataW.trod_int Try.underlying3 (by have := hfs 1 _ rfl; simpa [hone] using this)
      obtain ⟨c2, h2, _, w2⟩ := DataW.trod_int Try.underlying3 (by have := hfs 2 _ rfl; simpa [hone] using this)
      obtain ⟨c3, h3, _, w3⟩ := DataW.trod_int Try.underlying3 (by have := hfs 3 _ rfl; simpa [hone] using this)
      obtain ⟨c4, h4, _, w4⟩ := DataW.trod_int Try.underlying3 (by have := hfs 4 _ rfl; simpa [hone] using this)
      obtain ⟨c5, h5, _, w5⟩ := DataW.trod_int Try.underlying3 (by have := hfs 5 _ rfl; simpa [hone] using this)
      simp only [List.cons.injEq, and_true] at h0 h1 h2 h3 h4 h5
      subst h0 h1 h2 h3 h4 h5
      exact ⟨c0, c1, c2, c3, c4, c5, rfl, w0, w1, w2, w3, w4, w5⟩
end Go.Proofs.Ytpbnppeodoflcaa.E
end

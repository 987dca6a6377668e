/- Parts of the proof of DiffMarks, no condition: D7, D8, E15, E16, D9, D10, D11, D12, D13, PDiffMarksx1, D14, OpenCfg. -/
import Derived.Test.YtpbnppeodoflcaaMDiffMarks5
import Derived.Below
import Derived.Deep.Draws
import Derived.Deep.AppendLies
import Derived.Maps.AppendAt
import Derived.OwnWalk
import Derived.Laws.BytesArg
import Derived.Laws.MakeOwn
import Derived.Laws.OwnMore
import Derived.Deep.OwnRows
import Derived.Tactics
import Derived.Lib.ConvBytes
import Derived.Laws.Slices
import Derived.WalkKit
import Derived.KernelRfl
import Derived.RowKit3
import Derived.Deep.LoopGhost
import Derived.Deep.QuietTactic
import Derived.BigQuiet
import Derived.WideLaws
import Derived.Deep.DeepCutAuto
import Derived.Deep.CutBlock
import Derived.Deep.RegionHeld3
import Derived.Laws.Rows
import Derived.Lib.AppendStr
import Derived.ArgAppend
import Derived.Laws.IdiomCopy
import Derived.RowKit
import Derived.OrdersHeld
import Derived.Laws.BitsLemmas
import Derived.Laws.StructEq
import Derived.Test.YtpbnppeodoflcaaProg
import Derived.WalkLawsBesides
import Derived.WalkSpells
import Derived.Outline
import Derived.Laws.CopyOwn
import Derived.LoopN
import Derived.Deep.RegionLaw
import Derived.RangeFuncNested
import Derived.RangeFuncBound
import Derived.RangeFuncCalls
import Derived.RangeFuncLeaves
import Derived.Shelf.Abstract
import Derived.Shelf.RegionOpen
import Derived.OwnWalkIn
import Derived.TacticsInMore
import Derived.LoopNIn
import Derived.LoopIn
import Derived.Defers
import Derived.RegionTactic
import Derived.BigRegion
import Derived.Lib.SliceRun
import Derived.ProofKit
import Derived.OpenShut
import Derived.ChangeOld
import Derived.ChangeArms
section
namespace Go.Proofs.Ytpbnppeodoflcaa.E
open Go.RowKit Go.Proofs.Ytpbnppeodoflcaa.PDf Go.Proofs.Ytpbnppeodoflcaa.Pure Go.Proofs.YtpbnppeodoflcaaW.PrintWords Go.Proofs.YtpbnppeodoflcaaW.PrintLast Go.Proofs.YtpbnppeodoflcaaW.PrintMore
set_option linter.unusedVariables false
set_option linter.unusedSimpArgs false
theorem rows_two (W : World) (g : Nat) (A1 A2 : Option Addr) (c1 c2 : Nat) (l1 l2 : List Int) (hg : W.heap[g]? = some (.cells #[.slice A1 l1.length c1, .slice A2 l2.length c2] 24 (0, 0))) (h1 : Kd.C (Kd.int .u8) W A1 l1.length l1) (k1 : l1.length ≤ c1) (h2 : Kd.C (Kd.int .u8) W A2 l2.length l2) (k2 : l2.length ≤ c2) :
    Kd.C (Kd.slice 5 (Kd.int .u8)) W (some ⟨g, 0, none⟩) 2 [l1, l2] := by
  refine ⟨rfl, by decide, fun _ => ⟨_, rfl, fun j p hp => ?_⟩⟩
  rcases j with _ | _ | j
  · simp only [List.getElem?_cons_zero, Option.some.injEq] at hp
    subst hp
    refine ⟨[.slice A1 l1.length c1], rfl, ⟨A1, c1, rfl, k1, h1⟩, fun i u hu => ?_⟩
    rcases i with _ | i
    · simp only [List.getElem?_cons_zero, Option.some.injEq] at hu
      subst hu
      rw [add_plain]
      exact (blk_cell hg _).trans rfl
    · simp at hu
  · simp only [List.getElem?_cons_succ, List.getElem?_cons_zero, Option.some.injEq] at hp
    subst hp
    refine ⟨[.slice A2 l2.length c2], rfl, ⟨A2, c2, rfl, k2, h2⟩, fun i u hu => ?_⟩
    rcases i with _ | i
    · simp only [List.getElem?_cons_zero, Option.some.injEq] at hu
      subst hu
      rw [add_plain]
      exact (blk_cell hg _).trans rfl
    · simp at hu
  · simp at hp
/-- What a call of Mark may count on, behind the questions. -/
def markG (c0 c1 : Int) (marks work : List Int) (t : Int) : Bool := (Lit.int .i64 c0).wf && decide (0 < marks.length) && decide (marks.length ≤ 100) && decide (marks.length ≤ work.length) && decide (0 ≤ t ∧ t ≤ 1000) && decide ((t / 8).toNat < marks.length) && decide ((q_Has.f c1 (bothS marks work) t).map (·.2) = some 0)
def diff_Mark.f (c0 c1 c2 c3 c4 c5 pr : Int) (marks work : List Int) (t : Int) : Option (List Int × List Act_ × Int) :=
  (diff_asked.f 10 c0 c1 c2 c3 c4 c5 pr [marks, work]).bind fun e => if e = 0 then (q_Has.f c1 marks t).bind fun h => if h.2 = 0 then (if markG c0 c1 marks work t = true then some ((anewS (askM h.1 t) c0 c1 c2 c3 c4 c5 pr marks (putS (bothS marks work) t)).1, (anewS (askM h.1 t) c0 c1 c2 c3 c4 c5 pr marks (putS (bothS marks work) t)).2, 0) else none) else some ([], [], h.2) else some ([], [], e)
def MarkPost (w : World) (r1 : List Int) (r2 : List Act_) (r3 : Int) (e : Ending) (w' : World) : Prop :=
  ∃ v0_ v1_ : Value, e = .returned (.tuple #[v0_, v1_, .int .i64 r3]) ∧ Kd.R (Kd.int .u8) 5 w' w.heap.size (fun _ => True) v0_ r1 ∧ Kd.S k136 136 w' w.heap.size (fun k_ => some k_ ≠ (v0_ : Value).ownBlock) v1_ r2 ∧ Below w.heap.size w w'
theorem MarkPost.nil {w w' : World} (e : Int) (h : Below w.heap.size w w') : MarkPost w [] [] e (.returned (.tuple #[.slice none 0 0, .slice none 0 0, .int .i64 e])) w' := ⟨_, _, rfl, Kd.R_nil _ _ _ _ _, Kd.S_nil _ _ _ _ _, h⟩
theorem putS_length (s : List Int) (t : Int) : (putS s t).length = s.length := by simp [putS]
set_option maxHeartbeats 8000000 in
set_option maxRecDepth 100000 in
theorem mark_any (c0 c1 c2 c3 c4 c5 pr : Int) (MA WA : Option Addr) (mc wc : Nat) (marks work : List Int) (t : Int) (r1 : List Int) (r2 : List Act_) (r3 : Int) (w : World) (hM : Kd.C (Kd.int .u8) w MA marks.length marks) (hMc : marks.length ≤ mc) (hW : Kd.C (Kd.int .u8) w WA work.length work) (hWc : work.length ≤ wc) (h : diff_Mark.f c0 c1 c2 c3 c4 c5 pr marks work t = some (r1, r2, r3)) :
    Calls Try.prog 72 #[.agg #[.int .i64 c0, .int .i64 c1, .int .i64 c2, .int .i64 c3, .int .i64 c4, .int .i64 c5], .int .i64 pr, .slice MA marks.length mc, .slice WA work.length wc, .int .i64 t] w (MarkPost w r1 r2 r3) := by
  obtain ⟨e1, ha, h2⟩ := Option.bind_eq_some_iff.1 h
  have HM := Aside0.mk hM
  have HMc := Aside0.mk hMc
  have HW := Aside0.mk hW
  have HWc := Aside0.mk hWc
  have HA := Aside0.mk ha
  have H2 := Aside0.mk h2
  clear h h2 ha hM hMc hW hWc
  have hmf : ∀ (fn : Fn) (first cap : Array Value) (w : World), (Instr.makeFunc fn first cap).run Try.prog w = .ok (.func fn first cap) w := fun _ _ _ _ => rfl
  have b1 := blk_alloc (blk_alloc (heap_alloc_new w (.cells #[.int .i64 c0, .int .i64 c1, .int .i64 c2, .int .i64 c3, .int .i64 c4, .int .i64 c5] 23)) (.cells #[.int .i64 t] 3)) (.cells #[.slice MA marks.length mc, .slice WA work.length wc] 24)
  have b2 := blk_alloc (heap_alloc_new (w.alloc (.cells #[.int .i64 c0, .int .i64 c1, .int .i64 c2, .int .i64 c3, .int .i64 c4, .int .i64 c5] 23)) (.cells #[.int .i64 t] 3)) (.cells #[.slice MA marks.length mc, .slice WA work.length wc] 24)
  have b3 := heap_alloc_new ((w.alloc (.cells #[.int .i64 c0, .int .i64 c1, .int .i64 c2, .int .i64 c3, .int .i64 c4, .int .i64 c5] 23)).alloc (.cells #[.int .i64 t] 3)) (.cells #[.slice MA marks.length mc, .slice WA work.length wc] 24)
  have hB3 := below_alloc (below_alloc (below_alloc (Below.refl w.heap.size w) (.cells #[.int .i64 c0, .int .i64 c1, .int .i64 c2, .int .i64 c3, .int .i64 c4, .int .i64 c5] 23)) (.cells #[.int .i64 t] 3)) (.cells #[.slice MA marks.length mc, .slice WA work.length wc] 24)
  simp only [World.size_alloc] at b1 b2 b3
  have B1 := Aside0.mk b1
  have B2 := Aside0.mk b2
  have B3 := Aside0.mk b3
  have HB3 := Aside0.mk hB3
  clear b1 b2 b3 hB3
  go_enter Try.func72, Try.ntmps72
  go_wp2_with fail
  generalize ((w.alloc (.cells #[.int .i64 c0, .int .i64 c1, .int .i64 c2, .int .i64 c3, .int .i64 c4, .int .i64 c5] 23)).alloc (.cells #[.int .i64 t] 3)).alloc (.cells #[.slice MA marks.length mc, .slice WA work.length wc] 24) = W3 at B1 B2 B3 HB3 ⊢
  refine (diff_asked.calls 10 c0 c1 c2 c3 c4 c5 pr (some ⟨w.heap.size + 1 + 1, 0, none⟩) 2 [marks, work] e1 W3 (rows_two W3 _ MA WA mc wc marks work B3.out (Kd.C_below HM.out HB3.out) HMc.out (Kd.C_below HW.out HB3.out) HWc.out) (Nat.le_refl _) HA.out).mono ?_
  rintro e w4 ⟨rfl, hb⟩
  have HB4 := Aside0.mk (below_step HB3.out hb)
  have HX4 := Aside0.mk hb
  clear hb
  by_cases he : e1 = 0
  · subst he
    have h2 := H2.out
    rw [if_pos rfl] at h2
    obtain ⟨⟨is, e2⟩, hh, h3⟩ := Option.bind_eq_some_iff.1 h2
    simp only [] at h3
    have HH := Aside0.mk hh
    have H3 := Aside0.mk h3
    clear h2 h3 hh H2
    have k1 : w4.cell? ⟨w.heap.size, 1, none⟩ = some (.int .i64 c1) := (blk_cell (blk_below B1.out HX4.out) 1).trans rfl
    have k2 : w4.cell? ⟨w.heap.size + 1, 0, none⟩ = some (.int .i64 t) := (blk_cell (blk_below B2.out HX4.out) 0).trans rfl
    go_wp2_with fail
    refine (q_Has.calls c1 MA mc marks t is e2 w4 (Kd.C_below HM.out HB4.out) HMc.out HH.out).mono ?_
    rintro e w5 ⟨rfl, hb⟩
    have HX5 := Aside0.mk (below_alloc (below_step HX4.out hb) (.cells #[.bool is] 4))
    have HB5 := Aside0.mk (below_alloc (below_step HB4.out hb) (.cells #[.bool is] 4))
    have BI := Aside0.mk (heap_alloc_new w5 (.cells #[.bool is] 4))
    clear hb k1 k2
    by_cases he2 : e2 = 0
    · subst he2
      have h3 := H3.out
      rw [if_pos rfl] at h3
      by_cases hg : markG c0 c1 marks work t = true
      · rw [if_pos hg] at h3
        simp only [Option.some.injEq, Prod.mk.injEq] at h3
        obtain ⟨rfl, rfl, rfl⟩ := h3
        unfold markG at hg
        simp only [Bool.and_eq_true, decide_eq_true_eq] at hg
        obtain ⟨⟨⟨⟨⟨⟨g1, g2⟩, g3⟩, g4⟩, g5⟩, g6⟩, g7⟩ := hg
        obtain ⟨⟨bh, bz⟩, hp, hz⟩ := Option.map_eq_some_iff.1 g7
        simp only [] at hz
        subst hz
        have G := Aside0.mk (And.intro g1 (And.intro g2 (And.intro g3 (And.intro g4 (And.intro g5 g6)))))
        have HP := Aside0.mk hp
        clear g1 g2 g3 g4 g5 g6 g7 hp H3
        go_upto_region 7 with fail
        generalize w5.alloc (.cells #[.bool is] 4) = W5 at HX5 HB5 BI ⊢
        have HK : Aside0 (∀ W : World, Below W5.heap.size W5 W → W.cell? ⟨w.heap.size, 1, none⟩ = some (.int .i64 c1) ∧ W.cell? ⟨w.heap.size + 1, 0, none⟩ = some (.int .i64 t)) := ⟨fun W h => ⟨(blk_cell (blk_below B1.out (below_step HX5.out h)) 1).trans rfl, (blk_cell (blk_below B2.out (below_step HX5.out h)) 0).trans rfl⟩⟩
        have hlen : (bothS marks work).length = marks.length := by simp [bothS, andTo]
        have HLEN := Aside0.mk hlen
        clear hlen
        obtain ⟨k1, k2⟩ := HK.out W5 (Below.refl _ _)
        go_cut [15] (fun s15 wx => Aside0 (Kd.R (Kd.int .u8) 5 wx W5.heap.size (fun _ => True) s15 (putS (bothS marks work) t)) ∧ Aside0 (Below W5.heap.size W5 wx))
        case first =>
          go_region_held3 (fun w' => w'.cell? ⟨w.heap.size, 1, none⟩ = some (.int .i64 c1) ∧ w'.cell? ⟨w.heap.size + 1, 0, none⟩ = some (.int .i64 t)) (first | go_keep | exact HK.out _ (by repeat (first | exact Below.refl _ _ | apply below_drew | apply below_alloc | apply pw_below_drewN | refine below_step ?_ hb2 | refine below_step ?_ hb))) (first | (go_at_call 132; refine (both_any MA WA mc wc marks work _ (Kd.C_drew (Kd.C_below HM.out HB5.out)) HMc.out (Kd.C_drew (Kd.C_below HW.out HB5.out)) G.out.2.2.2.1 G.out.2.1 (by have := G.out.2.2.1; omega)).mono ?_; rintro e w6 ⟨vb, rfl, hr, hb⟩; (obtain ⟨Ab, cb, eb⟩ := Kd.R_slice hr); subst eb) | (go_at_call 139; refine (put_any c1 t (t / 8).toNat bh Ab cb (bothS marks work) _ (Kd.R_reads' hr).2.2 (Kd.R_reads' hr).2.1 HP.out G.out.2.2.2.2.1.1 G.out.2.2.2.2.1.2 (by have := G.out.2.2.2.2.1.1; omega) (by rw [HLEN.out]; exact G.out.2.2.2.2.2) (by rw [HLEN.out]; have := G.out.2.2.1; omega)).mono ?_; rintro e w7 ⟨vp, rfl, hr2, hb2⟩))
          all_goals go_wp2_with fail
          all_goals go_meet
          all_goals exact ⟨⟨Kd.R_lower hr2 hb.size⟩, ⟨below_step (below_step (below_drew (Below.refl _ _)) hb) hb2⟩⟩
        case rest =>
          obtain ⟨HR7, HB7⟩ := hcut
          obtain ⟨As, cs, es⟩ := Kd.R_slice HR7.out
          subst es
          have HPL : Aside0 (marks.length = (putS (bothS marks work) t).length) := ⟨by rw [putS_length, HLEN.out]⟩
          have HB8 := Aside0.mk (below_step HB5.out HB7.out)
          have b1 := blk_below B1.out (below_step HX5.out HB7.out)
          have m0 := (blk_cell b1 0).trans rfl
          have m1 := (blk_cell b1 1).trans rfl
          have m2 := (blk_cell b1 2).trans rfl
          have m3 := (blk_cell b1 3).trans rfl
          have m4 := (blk_cell b1 4).trans rfl
          have m5 := (blk_cell b1 5).trans rfl
          have BI8 := Aside0.mk (blk_below BI.out HB7.out)
          have BT8 := Aside0.mk (blk_below B2.out (below_step HX5.out HB7.out))
          clear b1 k1 k2
          go_wp2_with fail
          refine (anew_any c0 c1 c2 c3 c4 c5 pr marks (putS (bothS marks work) t) MA As mc cs _ (askM is t) 140 (.pointer (some ⟨w5.heap.size, 0, none⟩)) (.pointer (some ⟨w.heap.size + 1, 0, none⟩)) (Kd.C_below HM.out HB8.out) HMc.out (Kd.R_reads' HR7.out).2.2 HPL.out G.out.2.1 G.out.2.2.1 G.out.1 enter_mark (fun x W _ _ hbw => ask_mark x t is _ _ W ((blk_cell (blk_below BI8.out hbw) 0).trans rfl) ((blk_cell (blk_below BT8.out hbw) 0).trans rfl))).mono ?_
          rintro e w8 ⟨v0, v1, rfl, hr, hS, hb⟩
          go_wp2
          refine bodyPost_ret (v := .tuple #[v0, v1, .int .i64 0]) (by simp [results, Try.results72, go_sem]) rfl ?_
          exact ⟨v0, v1, rfl, Kd.R_lower hr HB8.out.size, Kd.S_lower hS HB8.out.size, below_step HB8.out hb⟩
      · rw [if_neg hg] at h3
        simp at h3
    · have h3 := H3.out
      rw [if_neg he2] at h3
      simp only [Option.some.injEq, Prod.mk.injEq] at h3
      obtain ⟨rfl, rfl, rfl⟩ := h3
      have d2 : (e2 != 0) = true := by simpa using he2
      have d2' : (e2 == 0) = false := by simpa using he2
      clear he2
      go_wp2
      refine bodyPost_ret (v := .tuple #[.slice none 0 0, .slice none 0 0, .int .i64 e2]) (by simp [results, Try.results72, go_sem]) rfl ?_
      exact MarkPost.nil _ HB5.out
  · have h2 := H2.out
    rw [if_neg he] at h2
    simp only [Option.some.injEq, Prod.mk.injEq] at h2
    obtain ⟨rfl, rfl, rfl⟩ := h2
    have d2 : (e1 != 0) = true := by simpa using he
    have d2' : (e1 == 0) = false := by simpa using he
    clear he
    go_wp2
    refine bodyPost_ret (v := .tuple #[.slice none 0 0, .slice none 0 0, .int .i64 e1]) (by simp [results, Try.results72, go_sem]) rfl ?_
    exact MarkPost.nil _ HB4.out
end Go.Proofs.Ytpbnppeodoflcaa.E
end
section
namespace Go.Proofs.Ytpbnppeodoflcaa.E
open Go.RowKit Go.Proofs.Ytpbnppeodoflcaa.PDf Go.Proofs.Ytpbnppeodoflcaa.Pure Go.Proofs.YtpbnppeodoflcaaW.PrintWords Go.Proofs.YtpbnppeodoflcaaW.PrintLast Go.Proofs.YtpbnppeodoflcaaW.PrintMore
set_option linter.unusedVariables false
set_option linter.unusedSimpArgs false
theorem diff_Mark.calls (a0_0 a0_1 a0_2 a0_3 a0_4 a0_5 : Int) (a1 : Int) (A2 : Option Addr) (c2 : Nat) (l2 : List Int) (A3 : Option Addr) (c3 : Nat) (l3 : List Int) (a4 : Int) (r1 : List Int) (r2 : List (S136)) (r3 : Int) (w : World) (hr2 : Kd.C (Kd.int .u8) w A2 l2.length l2) (hc2 : l2.length ≤ c2) (hr3 : Kd.C (Kd.int .u8) w A3 l3.length l3) (hc3 : l3.length ≤ c3) (h : diff_Mark.f a0_0 a0_1 a0_2 a0_3 a0_4 a0_5 a1 l2 l3 a4 = some (r1, r2, r3)) :
    Calls Try.prog 72 #[.agg #[.int .i64 a0_0, .int .i64 a0_1, .int .i64 a0_2, .int .i64 a0_3, .int .i64 a0_4, .int .i64 a0_5], .int .i64 a1, .slice A2 l2.length c2, .slice A3 l3.length c3, .int .i64 a4] w fun e w' => ∃ v0_ v1_ : Value, e = .returned (.tuple #[v0_, v1_, .int .i64 r3]) ∧ Kd.R (Kd.int .u8) 5 w' w.heap.size (fun _ => True) v0_ r1 ∧ Kd.S k136 136 w' w.heap.size (fun k_ => some k_ ≠ (v0_ : Value).ownBlock) v1_ r2 ∧ Below w.heap.size w w' :=
  mark_any a0_0 a0_1 a0_2 a0_3 a0_4 a0_5 a1 A2 A3 c2 c3 l2 l3 a4 r1 r2 r3 w hr2 hc2 hr3 hc3 h
end Go.Proofs.Ytpbnppeodoflcaa.E
end
section
namespace Go.Proofs.Ytpbnppeodoflcaa.E
open Go.RowKit Go.Proofs.YtpbnppeodoflcaaW.PrintWords Go.Proofs.YtpbnppeodoflcaaW.PrintLast Go.Proofs.YtpbnppeodoflcaaW.PrintMore Go.Proofs.Ytpbnppeodoflcaa.K
set_option linter.unusedVariables false
set_option linter.unusedSimpArgs false
def addB (s : List Int) (t : Int) : List Int := s.set (t / 8).toNat (Go.bits .or .u8 (rd s (t / 8)) (shl .u8 1 (t % 8)))
def setF (s : List Int) (l : List Int) : List Int := l.foldl addB s
theorem addB_length (s : List Int) (t : Int) : (addB s t).length = s.length := by simp [addB]
theorem setF_length (l : List Int) : ∀ s : List Int, (setF s l).length = s.length := by
  induction l with
  | nil => intro s; rfl
  | cons t l ih => intro s; show (setF (addB s t) l).length = _; rw [ih, addB_length]
theorem setF_snoc (s l : List Int) (t : Int) : setF s (l ++ [t]) = addB (setF s l) t := by simp [setF]
end Go.Proofs.Ytpbnppeodoflcaa.E
end
section
namespace Go.Proofs.Ytpbnppeodoflcaa.E
open Go.RowKit Go.Proofs.YtpbnppeodoflcaaW.PrintWords Go.Proofs.YtpbnppeodoflcaaW.PrintLast Go.Proofs.YtpbnppeodoflcaaW.PrintMore Go.Proofs.Ytpbnppeodoflcaa.K
set_option linter.unusedVariables false
set_option linter.unusedSimpArgs false
theorem bitB_test (c j : Nat) : bitB (c : Int) j = c.testBit j := by
  unfold bitB
  rw [Int.toNat_natCast, Nat.testBit_eq_decide_div_mod_eq]
  rfl
theorem or_nat (a b : Nat) (ha : a < 256) (hb : b < 256) : Go.bits .or .u8 (a : Int) (b : Int) = ((a ||| b : Nat) : Int) := (bits_nat .u8 8 (by decide) wraps_u8 a b ha hb).2
theorem or_in {x y : Int} (hx : 0 ≤ x ∧ x < 256) (hy : 0 ≤ y ∧ y < 256) : 0 ≤ Go.bits .or .u8 x y ∧ Go.bits .or .u8 x y < 256 := by
  obtain ⟨a, rfl⟩ := Int.eq_ofNat_of_zero_le hx.1
  obtain ⟨b, rfl⟩ := Int.eq_ofNat_of_zero_le hy.1
  rw [or_nat a b (by omega) (by omega)]
  have : a ||| b < 2 ^ 8 := Nat.or_lt_two_pow (by omega) (by omega)
  omega
theorem or_bit {x y : Int} (hx : 0 ≤ x ∧ x < 256) (hy : 0 ≤ y ∧ y < 256) (j : Nat) : bitB (Go.bits .or .u8 x y) j = (bitB x j || bitB y j) := by
  obtain ⟨a, rfl⟩ := Int.eq_ofNat_of_zero_le hx.1
  obtain ⟨b, rfl⟩ := Int.eq_ofNat_of_zero_le hy.1
  rw [or_nat a b (by omega) (by omega), bitB_test, bitB_test, bitB_test, Nat.testBit_or]
theorem rd_zip (f : Int → Int → Int) : ∀ (a b : List Int) (i : Nat), i < a.length → b.length = a.length → rd (List.zipWith f a b) (i : Int) = f (rd a (i : Int)) (rd b (i : Int)) := by
  intro a b i hi hb
  unfold rd
  rw [Int.toNat_natCast, List.getD_eq_getElem?_getD, List.getD_eq_getElem?_getD, List.getD_eq_getElem?_getD, List.getElem?_eq_getElem (by simp; omega), List.getElem?_eq_getElem hi, List.getElem?_eq_getElem (by omega)]
  simp
theorem inS_zip (f : Int → Int → Int) (g : Bool → Bool → Bool) (hg : g false false = false) (hf : ∀ x y : Int, 0 ≤ x ∧ x < 256 → 0 ≤ y ∧ y < 256 → ∀ j, j < 8 → bitB (f x y) j = g (bitB x j) (bitB y j)) (a b : List Int) (ha : okB a = true) (hb : okB b = true) (hl : b.length = a.length) (t : Int) : inS (List.zipWith f a b) t = g (inS a t) (inS b t) := by
  unfold inS
  rw [List.length_zipWith, hl, Nat.min_self]
  by_cases h0 : 0 ≤ t
  · by_cases h1 : t / 8 < (a.length : Int)
    · obtain ⟨i, hi⟩ := Int.eq_ofNat_of_zero_le (show 0 ≤ t / 8 by omega)
      rw [decide_eq_true h0, decide_eq_true h1, hi, rd_zip f a b i (by omega) hl, hf _ _ (rd_nonneg ha _) (rd_nonneg hb _) _ (by omega)]
      simp
    · rw [decide_eq_false h1]; simp [hg]
  · rw [decide_eq_false h0]; simp [hg]
theorem okB_zip (f : Int → Int → Int) (hf : ∀ x y : Int, 0 ≤ x ∧ x < 256 → 0 ≤ y ∧ y < 256 → 0 ≤ f x y ∧ f x y < 256) : ∀ (a b : List Int), okB a = true → okB b = true → okB (List.zipWith f a b) = true := by
  intro a
  induction a with
  | nil => intro b _ _; rfl
  | cons x a ih =>
    intro b ha hb
    rcases b with _ | ⟨y, b⟩
    · rfl
    · have h1 := okB_mem ha x (by simp)
      have h2 := okB_mem hb y (by simp)
      have h3 := ih b (List.all_eq_true.2 fun z hz => by simpa using okB_mem ha z (by simp [hz])) (List.all_eq_true.2 fun z hz => by simpa using okB_mem hb z (by simp [hz]))
      show ((decide _) && (okB _)) = true
      rw [h3, Bool.and_true]
      exact decide_eq_true (hf x y h1 h2)
/-- When a set may be. -/
theorem ckS_of {n : Int} {s : List Int} (hs : okB s = true) (h0 : 1 ≤ n) (h1 : n ≤ 16) (hl : (s.length : Int) = (n + 7) / 8) (h : ∀ t : Nat, n ≤ t → inS s (t : Int) = false) : ckS n s = 0 := by
  rw [ckS_may n s hs, if_pos ⟨h0, h1⟩, if_pos]
  unfold mayS
  simp only [Bool.and_eq_true, decide_eq_true_eq, List.all_eq_true, Bool.not_eq_true']
  refine ⟨⟨⟨h0, h1⟩, hl⟩, fun t ht => h t ?_⟩
  have := (List.mem_range'_1.1 ht).1
  omega
/-- Two rows of bytes of one length are alike if their bits are. -/
theorem ext_inS (a b : List Int) (ha : okB a = true) (hb : okB b = true) (hl : a.length = b.length) (h : ∀ t : Nat, inS a (t : Int) = inS b (t : Int)) : a = b := by
  apply List.ext_getElem hl
  intro i h1 h2
  have e1 : rd a (i : Int) = a[i] := by unfold rd; rw [Int.toNat_natCast, List.getD_eq_getElem?_getD, List.getElem?_eq_getElem h1]; rfl
  have e2 : rd b (i : Int) = b[i] := by unfold rd; rw [Int.toNat_natCast, List.getD_eq_getElem?_getD, List.getElem?_eq_getElem h2]; rfl
  rw [← e1, ← e2]
  have r1 := rd_nonneg ha (i : Int)
  have r2 := rd_nonneg hb (i : Int)
  obtain ⟨x, hx⟩ := Int.eq_ofNat_of_zero_le r1.1
  obtain ⟨y, hy⟩ := Int.eq_ofNat_of_zero_le r2.1
  rw [hx, hy]
  congr 1
  apply Nat.eq_of_testBit_eq
  intro j
  by_cases hj : j < 8
  · have := h (8 * i + j)
    unfold inS at this
    rw [show (((8 * i + j : Nat) : Int)) / 8 = (i : Int) from by omega, show ((((8 * i + j : Nat) : Int)) % 8).toNat = j from by omega, hx, hy, decide_eq_true (show (0 : Int) ≤ ((8 * i + j : Nat) : Int) by omega), decide_eq_true (show (i : Int) < a.length by omega), decide_eq_true (show (i : Int) < b.length by omega), bitB_test, bitB_test] at this
    simpa using this
  · rw [Nat.testBit_lt_two_pow (Nat.lt_of_lt_of_le (show x < 2 ^ 8 by omega) (Nat.pow_le_pow_right (by decide) (by omega))), Nat.testBit_lt_two_pow (Nat.lt_of_lt_of_le (show y < 2 ^ 8 by omega) (Nat.pow_le_pow_right (by decide) (by omega)))]
theorem rd_set (s : List Int) (i j : Nat) (v : Int) (hi : i < s.length) : rd (s.set i v) (j : Int) = if j = i then v else rd s (j : Int) := by
  unfold rd
  rw [Int.toNat_natCast, List.getD_eq_getElem?_getD, List.getD_eq_getElem?_getD, List.getElem?_set]
  by_cases h : i = j
  · subst h; simp [hi]
  · rw [if_neg h, if_neg (fun e => h e.symm)]
theorem one_bit : ∀ k : Nat, k < 8 → 0 ≤ shl .u8 1 (k : Int) ∧ shl .u8 1 (k : Int) < 256 ∧ ∀ j : Nat, j < 8 → bitB (shl .u8 1 (k : Int)) j = decide (j = k) := by decide +kernel
theorem okB_set {s : List Int} (hs : okB s = true) (i : Nat) {v : Int} (hv : 0 ≤ v ∧ v < 256) : okB (s.set i v) = true := by
  refine List.all_eq_true.2 fun x hx => ?_
  rcases List.mem_or_eq_of_mem_set hx with h | h
  · simpa using okB_mem hs x h
  · subst h; simpa using hv
theorem addB_ok {s : List Int} (hs : okB s = true) {t : Int} (h0 : 0 ≤ t) : okB (addB s t) = true := by
  obtain ⟨k, hk⟩ := Int.eq_ofNat_of_zero_le (show 0 ≤ t % 8 by omega)
  have hb := one_bit k (by omega)
  unfold addB
  rw [hk]
  exact okB_set hs _ (or_in (rd_nonneg hs _) ⟨hb.1, hb.2.1⟩)
theorem addB_in {s : List Int} (hs : okB s = true) {t : Int} (h0 : 0 ≤ t) (h1 : t / 8 < (s.length : Int)) (u : Int) : inS (addB s t) u = (inS s u || decide (u = t)) := by
  obtain ⟨k, hk⟩ := Int.eq_ofNat_of_zero_le (show 0 ≤ t % 8 by omega)
  obtain ⟨q, hq⟩ := Int.eq_ofNat_of_zero_le (show 0 ≤ t / 8 by omega)
  have hb := one_bit k (by omega)
  unfold inS
  rw [addB_length]
  by_cases u0 : 0 ≤ u
  · by_cases u1 : u / 8 < (s.length : Int)
    · obtain ⟨j, hj⟩ := Int.eq_ofNat_of_zero_le (show 0 ≤ u % 8 by omega)
      obtain ⟨i, hi⟩ := Int.eq_ofNat_of_zero_le (show 0 ≤ u / 8 by omega)
      rw [decide_eq_true u0, decide_eq_true u1]
      unfold addB
      rw [hk, hq, hi, hj, Int.toNat_natCast, rd_set s q i _ (by omega), Int.toNat_natCast]
      by_cases e : i = q
      · subst e
        rw [if_pos rfl, or_bit (rd_nonneg hs _) ⟨hb.1, hb.2.1⟩, hb.2.2 j (by omega)]
        simp only [Bool.true_and]
        congr 1
        exact decide_eq_decide.2 ⟨fun h => by omega, fun h => by omega⟩
      · rw [if_neg e, decide_eq_false (show ¬ u = t by omega)]
        simp
    · rw [decide_eq_false u1, decide_eq_false (show ¬ u = t by omega)]; simp
  · rw [decide_eq_false u0, decide_eq_false (show ¬ u = t by omega)]; simp
theorem setF_all (l : List Int) : ∀ (s : List Int), okB s = true → (∀ t ∈ l, 0 ≤ t ∧ t / 8 < (s.length : Int)) → okB (setF s l) = true ∧ ∀ u : Int, inS (setF s l) u = (inS s u || decide (u ∈ l)) := by
  induction l with
  | nil => intro s hs _; exact ⟨hs, fun u => by simp [setF]⟩
  | cons t l ih =>
    intro s hs h
    have ht := h t (by simp)
    have := ih (addB s t) (addB_ok hs ht.1) (fun x hx => by rw [addB_length]; exact h x (by simp [hx]))
    refine ⟨this.1, fun u => ?_⟩
    show inS (setF (addB s t) l) u = _
    rw [this.2 u, addB_in hs ht.1 ht.2]
    by_cases e : u = t <;> by_cases m : u ∈ l <;> simp [e, m]
theorem okB_zeros (m : Nat) : okB (List.replicate m 0) = true := List.all_eq_true.2 fun x hx => by rw [List.eq_of_mem_replicate hx]; decide
theorem inS_zeros (m : Nat) (u : Int) : inS (List.replicate m 0) u = false := by
  unfold inS rd
  have : ∀ i : Nat, (List.replicate m (0 : Int)).getD i 0 = 0 := by
    intro i
    rw [List.getD_eq_getElem?_getD, List.getElem?_replicate]
    split <;> rfl
  rw [this]
  have h2 : bitB 0 (u % 8).toNat = false := by unfold bitB; simp
  rw [h2, Bool.and_false]
end Go.Proofs.Ytpbnppeodoflcaa.E
end
section
namespace Go.Proofs.Ytpbnppeodoflcaa.PureD
open Go.RowKit Go.Proofs.Ytpbnppeodoflcaa.PDf Go.Proofs.Ytpbnppeodoflcaa.Pure Go.Proofs.Ytpbnppeodoflcaa.E Go.Proofs.YtpbnppeodoflcaaW.PrintWords Go.Proofs.YtpbnppeodoflcaaW.PrintLast Go.Proofs.YtpbnppeodoflcaaW.PrintMore
set_option linter.unusedVariables false
set_option linter.unusedSimpArgs false
theorem up {α : Type} {f : Nat → Option α} (hm : ∀ k, LeO (f k) (f (k + 1))) {a : Nat} {r : α} (h : f a = some r) : ∀ d, f (a + d) = some r
  | 0 => h
  | d + 1 => hm _ _ (up hm h d)
theorem in_f {s : List Int} (hs : okB s = true) {t : Int} (h0 : -1000 ≤ t) (h1 : t ≤ 1000) : q3_In.f s t = some (inS s t) := by
  unfold q3_In.f
  rw [if_pos hs, if_pos (by unfold i64B; simp; omega)]
theorem may03_loop (s : List Int) (hs : okB s = true) (hl : s.length ≤ 2) (d : Nat) : ∀ (k : Nat) (t : Nat), t ≤ 8 * s.length → 8 * s.length - t = d →
    catamaranref03_May.l0 (k + 10 + d) s (t : Int) = some ((List.range' t (8 * s.length - t)).all fun t => !inS s (t : Int)) := by
  induction d with
  | zero =>
    intro k t h0 hd
    rw [show k + 10 + 0 = (k + 9) + 1 from rfl]
    simp only [catamaranref03_May.l0]
    rw [wrap64_id (x := 8 * (s.length : Int)) (by omega) (by omega), if_neg (by omega), hd]
    rfl
  | succ d ih =>
    intro k t h0 hd
    rw [show k + 10 + (d + 1) = (k + 10 + d) + 1 from rfl]
    simp only [catamaranref03_May.l0]
    rw [wrap64_id (x := 8 * (s.length : Int)) (by omega) (by omega), if_pos (by omega), in_f hs (by omega) (by omega)]
    simp only [Option.bind_some]
    rw [show 8 * s.length - t = (8 * s.length - (t + 1)) + 1 from by omega, List.range'_succ, List.all_cons]
    cases hI : inS s (t : Int) with
    | true => rfl
    | false =>
      rw [if_neg (by simp), wrap64_id (x := (t : Int) + 1) (by omega) (by omega), show ((t : Int) + 1) = ((t + 1 : Nat) : Int) from by omega, ih k (t + 1) (by omega) (by omega)]
      rfl
theorem may03 (n : Int) (s : List Int) (hs : okB s = true) (k : Nat) : catamaranref03_May.f (k + 40) n s = some (mayS n s) := by
  unfold catamaranref03_May.f catamaranref03_Size.f mayS
  by_cases h0 : 1 ≤ n
  · rw [if_pos (by omega)]
    simp only [Option.bind_some]
    by_cases h1 : n ≤ 16
    · rw [if_pos (by simpa using h1), pages_tells h0 h1]
      rw [show k + 40 = (k + 39) + 1 from rfl]
      simp only [catamaranref03_May.j0]
      by_cases hl : (s.length : Int) = (n + 7) / 8
      · rw [if_neg (by simpa using hl)]
        obtain ⟨m, rfl⟩ := Int.eq_ofNat_of_zero_le (show 0 ≤ n by omega)
        have hd : 8 * s.length - m ≤ 16 := by omega
        have := may03_loop s hs (by omega) (8 * s.length - m) (k + 29 - (8 * s.length - m)) m (by omega) rfl
        rw [show k + 29 - (8 * s.length - m) + 10 + (8 * s.length - m) = k + 39 from by omega] at this
        rw [this]
        simp [h0, h1, hl]
      · rw [if_pos (by simpa using hl)]
        simp [hl]
    · rw [if_neg (by simpa using h1), show k + 40 = (k + 39) + 1 from rfl]
      simp only [catamaranref03_May.j0]
      simp [h1]
  · rw [if_neg (by omega)]
    simp only [Option.bind_some]
    rw [if_neg (by simp), show k + 40 = (k + 39) + 1 from rfl]
    simp only [catamaranref03_May.j0]
    simp [h0]
theorem may07 (c0 c1 c2 c3 c4 c5 : Int) (h0 : (Lit.int .i64 c0).wf = true) (k : Nat) : catamaranref07_May.f (k + 1) c0 c1 c2 c3 c4 c5 = some (decide (CfgOk c0 c1 c2 c3 c4 c5)) := may_tells c0 c1 c2 c3 c4 c5 h0 k
theorem ofpage (c0 c1 c2 c3 c4 c5 a1 a2 : Int) (hc : CfgOk c0 c1 c2 c3 c4 c5) (hP : PageOk c0 c1 a1 a2) : catamaranref07_OfPage.f c0 c1 c2 c3 c4 c5 a1 a2 = some (atS c0 c1 c2 a1 a2) := OfPage_tells c0 c1 c2 c3 c4 c5 a1 a2 hc hP
/-- The answer to the questions. -/
def askS (c0 c1 c2 c3 c4 c5 pr : Int) (l : List (List Int)) : Int := if CfgOk c0 c1 c2 c3 c4 c5 then (if pr < 0 ∨ c0 ≤ pr then 2 else (if (l.all fun s => ckS c1 s == 0) = true then 0 else 8)) else 8
theorem ckS_two {n : Int} {s : List Int} (hs : okB s = true) (h0 : 1 ≤ n) (h1 : n ≤ 16) : ckS n s = if mayS n s = true then 0 else 8 := by rw [ckS_may n s hs, if_pos ⟨h0, h1⟩]
theorem asked_ref (c0 c1 c2 c3 c4 c5 pr : Int) (a b : List Int) (h0 : (Lit.int .i64 c0).wf = true) (ha : okB a = true) (hb : okB b = true) (k : Nat) : catamaranref14_asked.f (k + 41) c0 c1 c2 c3 c4 c5 pr a b = some (askS c0 c1 c2 c3 c4 c5 pr [a, b]) := by
  unfold catamaranref14_asked.f askS
  rw [show k + 41 = (k + 40) + 1 from rfl, may07 c0 c1 c2 c3 c4 c5 h0]
  simp only [Option.bind_some, decide_eq_true_eq]
  by_cases hc : CfgOk c0 c1 c2 c3 c4 c5
  · rw [if_pos hc, if_pos hc]
    have hn := hc.2.1
    simp only [catamaranref14_asked.j0]
    rw [may03 c1 a ha, may03 c1 b hb]
    simp only [Option.bind_some, List.all_cons, List.all_nil, Bool.and_true, Bool.and_eq_true, beq_iff_eq]
    rw [ckS_two ha hn.1 hn.2, ckS_two hb hn.1 hn.2]
    by_cases p1 : pr < 0
    · rw [if_pos p1, if_pos (Or.inl p1)]; simp
    · rw [if_neg p1]
      by_cases p2 : c0 ≤ pr
      · rw [if_pos (Or.inr p2), if_pos (by simpa using p2)]
      · rw [if_neg (show ¬ (decide (pr ≥ c0) = true) from by simpa using p2), if_neg (show ¬ (pr < 0 ∨ c0 ≤ pr) from by omega)]
        cases mayS c1 a <;> cases mayS c1 b <;> simp
  · rw [if_neg hc, if_neg hc]
theorem asked_loop (c0 c1 c2 c3 c4 c5 : Int) (l : List (List Int)) (hn : 1 ≤ c1 ∧ c1 ≤ 16) (hl : l.length ≤ 3) (hok : ∀ s ∈ l, okB s = true) (d : Nat) : ∀ (k i : Nat), i + d = l.length → d < k →
    diff_asked.l0 k l (l.length : Int) (i : Int) c0 c1 c2 c3 c4 c5 = some (if ((l.drop i).all fun s => ckS c1 s == 0) = true then 0 else 8) := by
  induction d with
  | zero =>
    intro k i hi hk
    obtain ⟨k, rfl⟩ : ∃ m, k = m + 1 := ⟨k - 1, by omega⟩
    simp only [diff_asked.l0]
    rw [if_neg (by omega), List.drop_of_length_le (by omega)]
    rfl
  | succ d ih =>
    intro k i hi hk
    obtain ⟨k, rfl⟩ : ∃ m, k = m + 1 := ⟨k - 1, by omega⟩
    simp only [diff_asked.l0]
    rw [if_pos (by omega), if_pos (by omega), if_pos (by omega)]
    have hlt : i < l.length := by omega
    have hrd : rd_L3 l (i : Int) = l[i] := by
      unfold rd_L3
      rw [Int.toNat_natCast, List.getD_eq_getElem?_getD, List.getElem?_eq_getElem hlt]
      rfl
    rw [hrd, show bits_Check.f c1 l[i] = some (ckS c1 l[i]) from rfl]
    simp only [Option.bind_some]
    rw [List.drop_eq_getElem_cons hlt, List.all_cons, ckS_two (hok _ (List.getElem_mem hlt)) hn.1 hn.2]
    cases mayS c1 l[i] with
    | true =>
      rw [if_pos rfl, if_pos rfl, wrap64_id (by omega) (by omega), show ((i : Int) + 1) = ((i + 1 : Nat) : Int) from by omega, ih k (i + 1) (by omega) (by omega)]
      simp
    | false => simp
theorem asked_own (c0 c1 c2 c3 c4 c5 pr : Int) (l : List (List Int)) (h0 : (Lit.int .i64 c0).wf = true) (hl : l.length ≤ 3) (hok : ∀ s ∈ l, okB s = true) : diff_asked.f 10 c0 c1 c2 c3 c4 c5 pr l = some (askS c0 c1 c2 c3 c4 c5 pr l) := by
  unfold diff_asked.f askS
  rw [show place_Check.f c0 c1 c2 c3 c4 c5 = some (cfgS c0 c1 c2 c3 c4 c5) from rfl, cfg_tells c0 c1 c2 c3 c4 c5 h0]
  simp only [Option.bind_some]
  by_cases hc : CfgOk c0 c1 c2 c3 c4 c5
  · rw [if_pos hc, if_pos rfl, if_pos hc]
    simp only [diff_asked.j0]
    have hloop := asked_loop c0 c1 c2 c3 c4 c5 l hc.2.1 hl hok l.length 9 0 (by omega) (by omega)
    rw [show ((0 : Nat) : Int) = 0 from rfl, List.drop_zero] at hloop
    by_cases p1 : pr < 0
    · rw [if_pos p1, if_pos (Or.inl p1)]; rfl
    · rw [if_neg p1]
      by_cases p2 : c0 ≤ pr
      · rw [if_pos (Or.inr p2), if_pos (by simpa using p2)]
      · rw [if_neg (show ¬ (decide (pr ≥ c0) = true) from by simpa using p2), if_neg (show ¬ (pr < 0 ∨ c0 ≤ pr) from by omega), hloop]
  · rw [if_neg hc, if_neg hc, if_neg (by decide)]
/-- Those that are told. -/
def pick (l : List Bool) (m : Nat) : List Int := ((List.range m).filter fun t => l.getD t false).map fun t : Nat => (t : Int)
theorem pick_succ (l : List Bool) (m : Nat) : pick l (m + 1) = if l.getD m false = true then pick l m ++ [(m : Int)] else pick l m := by
  unfold pick
  rw [List.range_succ, List.filter_append]
  rw [List.map_append, List.filter_cons, List.filter_nil]
  cases l.getD m false <;> simp
theorem mem_pick (l : List Bool) (m : Nat) (u : Int) : u ∈ pick l m ↔ ∃ t : Nat, t < m ∧ l.getD t false = true ∧ u = (t : Int) := by
  unfold pick
  simp only [List.mem_map, List.mem_filter, List.mem_range]
  constructor
  · rintro ⟨t, ⟨h1, h2⟩, rfl⟩; exact ⟨t, h1, h2, rfl⟩
  · rintro ⟨t, h1, h2, rfl⟩; exact ⟨t, ⟨h1, h2⟩, rfl⟩
def madeS (n : Nat) (l : List Bool) : List Int := setF (List.replicate ((n + 7) / 8) 0) (pick l n)
theorem power10 : ∀ j : Nat, j < 8 → catamaranref03_power.f 10 (j : Int) = some ((2 ^ j : Nat) : Int) := by decide +kernel
theorem power_f (k : Nat) {j : Nat} (hj : j < 8) : catamaranref03_power.f (10 + k) (j : Int) = some ((2 ^ j : Nat) : Int) := up (fun k => catamaranref03_power.mono (j : Int) k) (power10 j hj) k
theorem byte_add : ∀ x : Nat, x < 256 → ∀ j : Nat, j < 8 → bitB (x : Int) j = false → ((x : Int) + ((2 ^ j : Nat) : Int) % 256) % 256 = Go.bits .or .u8 (x : Int) (shl .u8 1 (j : Int)) := by decide +kernel
theorem made_step (k n t : Nat) (l : List Bool) (S : List Int) (ht : t < n) (hn : n ≤ 16) (hl : l.length = n) :
    catamaranref03_Made.l0 (k + 1) (n : Int) l S (t : Int) = if l.getD t false = true then (if ((t / 8 : Nat) : Int) < (S.length : Int) then ((catamaranref03_power.f k ((t % 8 : Nat) : Int)).bind fun p => catamaranref03_Made.l0 k (n : Int) l (S.set (((t / 8 : Nat) : Int)).toNat ((rd S ((t / 8 : Nat) : Int) + p % 256) % 256)) ((t + 1 : Nat) : Int)) else none) else catamaranref03_Made.l0 k (n : Int) l S ((t + 1 : Nat) : Int) := by
  have e1 : (t : Int).tdiv 8 = ((t / 8 : Nat) : Int) := by rw [Int.tdiv_eq_ediv_of_nonneg (by omega)]; omega
  have e2 : (t : Int).tmod 8 = ((t % 8 : Nat) : Int) := by rw [Int.tmod_eq_emod_of_nonneg (by omega)]; omega
  have e3 : wrap64 ((t / 8 : Nat) : Int) = ((t / 8 : Nat) : Int) := wrap64_id (by omega) (by omega)
  have e4 : wrap64 ((t : Int) + 1) = ((t + 1 : Nat) : Int) := by rw [wrap64_id (by omega) (by omega)]; omega
  have hrd : rdOf false l (t : Int) = l.getD t false := by unfold rdOf; rw [Int.toNat_natCast]
  have c1 : (t : Int) < (n : Int) := by omega
  have c2 : (0 : Int) ≤ (t : Int) := by omega
  have c3 : (t : Int) < (l.length : Int) := by omega
  have c4 : (0 : Int) ≤ ((t / 8 : Nat) : Int) := by omega
  show (if (t : Int) < (n : Int) then _ else _) = _
  rw [if_pos c1, if_pos c2, if_pos c3, hrd, e1, e2, e3, e4, if_pos c4]
theorem made_loop (n : Nat) (hn : 1 ≤ n ∧ n ≤ 16) (l : List Bool) (hl : l.length = n) (d : Nat) : ∀ (k t : Nat), t + d = n → d + 12 ≤ k →
    catamaranref03_Made.l0 k (n : Int) l (setF (List.replicate ((n + 7) / 8) 0) (pick l t)) (t : Int) = some (madeS n l) := by
  induction d with
  | zero =>
    intro k t ht hk
    obtain ⟨k, rfl⟩ : ∃ m, k = m + 1 := ⟨k - 1, by omega⟩
    show (if (t : Int) < (n : Int) then _ else _) = _
    rw [if_neg (by omega), show t = n from by omega]
    rfl
  | succ d ih =>
    intro k t ht hk
    obtain ⟨k, rfl⟩ : ∃ m, k = m + 1 := ⟨k - 1, by omega⟩
    have hz := setF_all (pick l t) (List.replicate ((n + 7) / 8) 0) (okB_zeros _) (by
      intro x hx
      obtain ⟨u, h1, _, rfl⟩ := (mem_pick l t x).1 hx
      simp
      omega)
    have hlen : (setF (List.replicate ((n + 7) / 8) 0) (pick l t)).length = (n + 7) / 8 := by rw [setF_length]; simp
    have hstep := ih k (t + 1) (by omega) (by omega)
    rw [pick_succ] at hstep
    have hno : inS (setF (List.replicate ((n + 7) / 8) 0) (pick l t)) (t : Int) = false := by
      rw [hz.2, inS_zeros]
      simp only [Bool.false_or, decide_eq_false_iff_not]
      intro h
      obtain ⟨u, h1, _, h2⟩ := (mem_pick l t _).1 h
      omega
    have hset : l.getD t false = true → setF (List.replicate ((n + 7) / 8) 0) (pick l t ++ [(t : Int)]) = addB (setF (List.replicate ((n + 7) / 8) 0) (pick l t)) (t : Int) := fun _ => setF_snoc _ _ _
    rw [made_step k n t l _ (by omega) hn.2 hl]
    have hp : catamaranref03_power.f k ((t % 8 : Nat) : Int) = some ((2 ^ (t % 8) : Nat) : Int) := by
      have := power_f (k - 10) (Nat.mod_lt t (show 0 < 8 by decide))
      rw [show 10 + (k - 10) = k from by omega] at this
      exact this
    rw [hp]
    have hok := hz.1
    clear hz ih hp
    cases hb : l.getD t false with
    | false =>
      rw [if_neg (by simp)]
      rw [if_neg (by rw [hb]; simp)] at hstep
      exact hstep
    | true =>
      rw [if_pos (by rw [hb]), hset hb] at hstep
      generalize setF (List.replicate ((n + 7) / 8) 0) (pick l t) = S at hlen hstep hno hok ⊢
      rw [if_pos rfl, if_pos (show ((t / 8 : Nat) : Int) < (S.length : Int) by rw [hlen]; omega)]
      have hr := rd_nonneg hok ((t / 8 : Nat) : Int)
      obtain ⟨x, hx⟩ := Int.eq_ofNat_of_zero_le hr.1
      have hbit : bitB (x : Int) (t % 8) = false := by
        unfold inS at hno
        rw [decide_eq_true (show (0 : Int) ≤ (t : Int) by omega), show (t : Int) / 8 = ((t / 8 : Nat) : Int) from by omega, decide_eq_true (show ((t / 8 : Nat) : Int) < (S.length : Int) by rw [hlen]; omega), hx, show ((t : Int) % 8).toNat = t % 8 from by omega] at hno
        simpa using hno
      have hadd : addB S (t : Int) = S.set (((t / 8 : Nat) : Int)).toNat ((rd S ((t / 8 : Nat) : Int) + ((2 ^ (t % 8) : Nat) : Int) % 256) % 256) := by
        unfold addB
        rw [show (t : Int) / 8 = ((t / 8 : Nat) : Int) from by omega, show (t : Int) % 8 = ((t % 8 : Nat) : Int) from by omega, hx, byte_add x (by omega) (t % 8) (Nat.mod_lt _ (by decide)) hbit]
      rw [hadd] at hstep
      exact hstep
theorem made_f (n : Nat) (hn : 1 ≤ n ∧ n ≤ 16) (l : List Bool) (hl : l.length = n) (k : Nat) : catamaranref03_Made.f (k + 30) (n : Int) l = some (madeS n l) := by
  unfold catamaranref03_Made.f
  rw [pages_tells (by omega) (by omega), if_pos (by omega), if_pos (by omega), show (((n : Int) + 7) / 8).toNat = (n + 7) / 8 from by omega]
  exact made_loop n hn l hl n (k + 30) 0 (by omega) (by omega)
theorem madeS_ok (n : Nat) (l : List Bool) (hn : 1 ≤ n) : okB (madeS n l) = true ∧ (madeS n l).length = (n + 7) / 8 ∧ ∀ u : Nat, inS (madeS n l) (u : Int) = (decide (u < n) && l.getD u false) := by
  have hz := setF_all (pick l n) (List.replicate ((n + 7) / 8) 0) (okB_zeros _) (by
    intro x hx
    obtain ⟨u, h1, _, rfl⟩ := (mem_pick l n x).1 hx
    simp
    omega)
  refine ⟨hz.1, by unfold madeS; rw [setF_length]; simp, fun u => ?_⟩
  show inS (setF _ _) _ = _
  rw [hz.2, inS_zeros, Bool.false_or]
  rw [Bool.eq_iff_iff]
  simp only [decide_eq_true_eq, Bool.and_eq_true]
  rw [mem_pick]
  constructor
  · rintro ⟨t, h1, h2, h3⟩
    obtain rfl : u = t := by omega
    exact ⟨h1, h2⟩
  · rintro ⟨h1, h2⟩
    exact ⟨u, h1, h2, rfl⟩
end Go.Proofs.Ytpbnppeodoflcaa.PureD
end
section
namespace Go.Proofs.Ytpbnppeodoflcaa.PureD
open Go.RowKit Go.Proofs.Ytpbnppeodoflcaa.PDf Go.Proofs.Ytpbnppeodoflcaa.Pure Go.Proofs.Ytpbnppeodoflcaa.E Go.Proofs.YtpbnppeodoflcaaW.PrintWords Go.Proofs.YtpbnppeodoflcaaW.PrintLast Go.Proofs.YtpbnppeodoflcaaW.PrintMore
set_option linter.unusedVariables false
set_option linter.unusedSimpArgs false
def lessL (a b : List Int) (m : Nat) : List Bool := (List.range m).map fun t : Nat => inS a (t : Int) && !inS b (t : Int)
theorem lessL_succ (a b : List Int) (m : Nat) : lessL a b (m + 1) = lessL a b m ++ [inS a (m : Int) && !inS b (m : Int)] := by simp [lessL, List.range_succ]
theorem lessL_length (a b : List Int) (m : Nat) : (lessL a b m).length = m := by simp [lessL]
theorem less_loop (n : Nat) (hn : 1 ≤ n ∧ n ≤ 16) (a b : List Int) (ha : okB a = true) (hb : okB b = true) (d : Nat) : ∀ (k t : Nat), t + d = n → d + 31 ≤ k →
    catamaranref03_Less.l0 k (n : Int) a b (lessL a b t) (t : Int) = some (madeS n (lessL a b n)) := by
  induction d with
  | zero =>
    intro k t ht hk
    obtain ⟨k, rfl⟩ : ∃ m, k = m + 1 := ⟨k - 1, by omega⟩
    show (if (t : Int) < (n : Int) then _ else _) = _
    rw [if_neg (by omega), show t = n from by omega]
    have := made_f n hn (lessL a b n) (lessL_length a b n) (k - 30)
    rw [show k - 30 + 30 = k from by omega] at this
    rw [this]
    rfl
  | succ d ih =>
    intro k t ht hk
    obtain ⟨k, rfl⟩ : ∃ m, k = m + 1 := ⟨k - 1, by omega⟩
    have hstep := ih k (t + 1) (by omega) (by omega)
    rw [lessL_succ] at hstep
    show (if (t : Int) < (n : Int) then _ else _) = _
    rw [if_pos (by omega), in_f ha (by omega) (by omega), in_f hb (by omega) (by omega)]
    simp only [Option.bind_some]
    rw [if_pos (show (lessL a b t).length < 140737488355328 by rw [lessL_length]; omega), if_pos (show (lessL a b t).length < 140737488355328 by rw [lessL_length]; omega), wrap64_id (x := (t : Int) + 1) (by omega) (by omega), show ((t : Int) + 1) = ((t + 1 : Nat) : Int) from by omega]
    cases hI : inS a (t : Int) with
    | true =>
      rw [if_pos rfl]
      rw [hI, Bool.true_and] at hstep
      exact hstep
    | false =>
      rw [if_neg (by simp)]
      rw [hI, Bool.false_and] at hstep
      exact hstep
theorem less_f (n : Nat) (hn : 1 ≤ n ∧ n ≤ 16) (a b : List Int) (ha : okB a = true) (hb : okB b = true) (k : Nat) : catamaranref03_Less.f (k + 50) (n : Int) a b = some (madeS n (lessL a b n)) := less_loop n hn a b ha hb n (k + 50) 0 (by omega) (by omega)
theorem getD_lessL (a b : List Int) {n u : Nat} (hu : u < n) : (lessL a b n).getD u false = (inS a (u : Int) && !inS b (u : Int)) := by
  unfold lessL
  rw [List.getD_eq_getElem?_getD, List.getElem?_map, List.getElem?_range hu]
  rfl
/-- A set that may be. -/
def SetOk (n : Nat) (s : List Int) : Prop := okB s = true ∧ s.length = (n + 7) / 8 ∧ ∀ u : Nat, n ≤ u → inS s (u : Int) = false
theorem setOk_of {n : Nat} {s : List Int} (hs : okB s = true) (h : ckS (n : Int) s = 0) : SetOk n s := by
  obtain ⟨_, _, h3, h4⟩ := ckS_zero hs h
  exact ⟨hs, by omega, fun u hu => h4 u (by omega)⟩
theorem ck_of {n : Nat} {s : List Int} (hn : 1 ≤ n ∧ n ≤ 16) (h : SetOk n s) : ckS (n : Int) s = 0 := ckS_of h.1 (by omega) (by omega) (by have := h.2.1; omega) (fun t ht => h.2.2 t (by omega))
theorem setOk_made (n : Nat) (l : List Bool) (hn : 1 ≤ n) : SetOk n (madeS n l) := by
  obtain ⟨h1, h2, h3⟩ := madeS_ok n l hn
  exact ⟨h1, h2, fun u hu => by rw [h3, decide_eq_false (by omega), Bool.false_and]⟩
theorem set_eq {n : Nat} {a b : List Int} (ha : SetOk n a) (hb : SetOk n b) (h : ∀ u : Nat, u < n → inS a (u : Int) = inS b (u : Int)) : a = b :=
  ext_inS a b ha.1 hb.1 (by rw [ha.2.1, hb.2.1]) (fun u => by
    by_cases hu : u < n
    · exact h u hu
    · rw [ha.2.2 u (by omega), hb.2.2 u (by omega)])
theorem and_nat (a b : Nat) (ha : a < 256) (hb : b < 256) : Go.bits .and .u8 (a : Int) (b : Int) = ((a &&& b : Nat) : Int) := (bits_nat .u8 8 (by decide) wraps_u8 a b ha hb).1
theorem and_bit {x y : Int} (hx : 0 ≤ x ∧ x < 256) (hy : 0 ≤ y ∧ y < 256) (j : Nat) : bitB (Go.bits .and .u8 x y) j = (bitB x j && bitB y j) := by
  obtain ⟨a, rfl⟩ := Int.eq_ofNat_of_zero_le hx.1
  obtain ⟨b, rfl⟩ := Int.eq_ofNat_of_zero_le hy.1
  rw [and_nat a b (by omega) (by omega), bitB_test, bitB_test, bitB_test, Nat.testBit_and]
theorem and_in {x y : Int} (hx : 0 ≤ x ∧ x < 256) (hy : 0 ≤ y ∧ y < 256) : 0 ≤ Go.bits .and .u8 x y ∧ Go.bits .and .u8 x y < 256 := by
  obtain ⟨a, rfl⟩ := Int.eq_ofNat_of_zero_le hx.1
  obtain ⟨b, rfl⟩ := Int.eq_ofNat_of_zero_le hy.1
  rw [and_nat a b (by omega) (by omega)]
  have : a &&& b ≤ a := Nat.and_le_left
  omega
theorem both_zip (a b : List Int) (h : b.length = a.length) : bothS a b = List.zipWith (fun x y => Go.bits .and .u8 x y) a b := by
  apply List.ext_getElem
  · simp [bothS, andTo, h]
  · intro i h1 h2
    have ha : i < a.length := by simpa [bothS, andTo] using h1
    simp [bothS, andTo, List.getElem?_eq_getElem ha, List.getElem?_eq_getElem (show i < b.length by omega)]
theorem both_ok {n : Nat} {a b : List Int} (ha : SetOk n a) (hb : SetOk n b) : SetOk n (bothS a b) ∧ ∀ u : Nat, inS (bothS a b) (u : Int) = (inS a (u : Int) && inS b (u : Int)) := by
  have hl : b.length = a.length := by rw [ha.2.1, hb.2.1]
  have hin : ∀ u : Nat, inS (bothS a b) (u : Int) = (inS a (u : Int) && inS b (u : Int)) := fun u => by
    rw [both_zip a b hl]
    exact inS_zip _ (fun x y => x && y) rfl (fun x y hx hy j _ => and_bit hx hy j) a b ha.1 hb.1 hl u
  refine ⟨⟨?_, by rw [both_zip a b hl, List.length_zipWith, hl, Nat.min_self]; exact ha.2.1, fun u hu => by rw [hin, ha.2.2 u hu, Bool.false_and]⟩, hin⟩
  rw [both_zip a b hl]
  exact okB_zip _ (fun x y hx hy => and_in hx hy) a b ha.1 hb.1
theorem both_ref {n : Nat} (hn : 1 ≤ n ∧ n ≤ 16) {a b : List Int} (ha : SetOk n a) (hb : SetOk n b) (k : Nat) : catamaranref14_Both.f (k + 50) (n : Int) a b = some (bothS a b) := by
  unfold catamaranref14_Both.f
  have h1 := setOk_made n (lessL a b n) hn.1
  have m1 := (madeS_ok n (lessL a b n) hn.1).2.2
  rw [less_f n hn a b ha.1 hb.1 k]
  simp only [Option.bind_some]
  rw [less_f n hn a _ ha.1 h1.1 k]
  simp only [Option.bind_some]
  congr 1
  have h2 := setOk_made n (lessL a (madeS n (lessL a b n)) n) hn.1
  have m2 := (madeS_ok n (lessL a (madeS n (lessL a b n)) n) hn.1).2.2
  obtain ⟨hb1, hb2⟩ := both_ok ha hb
  refine set_eq h2 hb1 (fun u hu => ?_)
  rw [m2, getD_lessL _ _ hu, m1, getD_lessL _ _ hu, hb2, decide_eq_true hu]
  cases inS a (u : Int) <;> cases inS b (u : Int) <;> rfl
theorem byte_put : ∀ x : Nat, x < 256 → ∀ j : Nat, j < 8 → Go.bits .or .u8 (Go.bits .andNot .u8 (x : Int) (shl .u8 1 (j : Int))) (shl .u8 1 (j : Int)) = Go.bits .or .u8 (x : Int) (shl .u8 1 (j : Int)) := by decide +kernel
theorem put_add {s : List Int} (hs : okB s = true) {t : Int} (h0 : 0 ≤ t) : putS s t = addB s t := by
  unfold putS addB
  rw [List.set_set]
  have hr := rd_nonneg hs (t / 8)
  obtain ⟨x, hx⟩ := Int.eq_ofNat_of_zero_le hr.1
  obtain ⟨j, hj⟩ := Int.eq_ofNat_of_zero_le (show 0 ≤ t % 8 by omega)
  rw [hx, hj, byte_put x (by omega) j (by omega)]
def toldL (s : List Int) (m : Nat) : List Bool := (List.range m).map fun t : Nat => inS s (t : Int)
theorem toldL_succ (s : List Int) (m : Nat) : toldL s (m + 1) = toldL s m ++ [inS s (m : Int)] := by simp [toldL, List.range_succ]
theorem toldL_length (s : List Int) (m : Nat) : (toldL s m).length = m := by simp [toldL]
theorem told_loop (n : Nat) (hn : n ≤ 16) (s : List Int) (hs : okB s = true) (d : Nat) : ∀ (k t : Nat), t + d = n → d < k →
    catamaranref03_Told.l0 k (n : Int) s (toldL s t) (t : Int) = some (toldL s n) := by
  induction d with
  | zero =>
    intro k t ht hk
    obtain ⟨k, rfl⟩ : ∃ m, k = m + 1 := ⟨k - 1, by omega⟩
    show (if (t : Int) < (n : Int) then _ else _) = _
    rw [if_neg (by omega), show t = n from by omega]
  | succ d ih =>
    intro k t ht hk
    obtain ⟨k, rfl⟩ : ∃ m, k = m + 1 := ⟨k - 1, by omega⟩
    have hstep := ih k (t + 1) (by omega) (by omega)
    rw [toldL_succ] at hstep
    show (if (t : Int) < (n : Int) then _ else _) = _
    rw [if_pos (by omega), in_f hs (by omega) (by omega)]
    simp only [Option.bind_some]
    rw [if_pos (show (toldL s t).length < 140737488355328 by rw [toldL_length]; omega), wrap64_id (x := (t : Int) + 1) (by omega) (by omega), show ((t : Int) + 1) = ((t + 1 : Nat) : Int) from by omega]
    exact hstep
theorem addB_setOk {n t : Nat} {s : List Int} (hs : SetOk n s) (ht : t < n) : SetOk n (addB s (t : Int)) ∧ ∀ u : Nat, inS (addB s (t : Int)) (u : Int) = (inS s (u : Int) || decide (u = t)) := by
  have hin : ∀ u : Nat, inS (addB s (t : Int)) (u : Int) = (inS s (u : Int) || decide (u = t)) := fun u => by
    rw [addB_in hs.1 (by omega) (by have := hs.2.1; omega)]
    congr 1
    exact decide_eq_decide.2 (by omega)
  exact ⟨⟨addB_ok hs.1 (by omega), by rw [addB_length]; exact hs.2.1, fun u hu => by rw [hin, hs.2.2 u hu, decide_eq_false (by omega)]; rfl⟩, hin⟩
theorem with_ref {n t : Nat} (hn : 1 ≤ n ∧ n ≤ 16) {s : List Int} (hs : SetOk n s) (ht : t < n) (k : Nat) : catamaranref03_With.f (k + 50) (n : Int) s (t : Int) true = some (addB s (t : Int)) := by
  unfold catamaranref03_With.f catamaranref03_Told.f
  have := told_loop n hn.2 s hs.1 n (k + 50) 0 (by omega) (by omega)
  rw [show toldL s 0 = ([] : List Bool) from rfl, show ((0 : Nat) : Int) = 0 from rfl] at this
  rw [this]
  simp only [Option.bind_some]
  rw [if_pos (by omega), if_pos (by rw [toldL_length]; omega), Int.toNat_natCast]
  have hm := made_f n hn ((toldL s n).set t true) (by rw [List.length_set, toldL_length]) (k + 20)
  rw [show k + 20 + 30 = k + 50 from by omega] at hm
  rw [hm]
  simp only [Option.bind_some]
  congr 1
  have h2 := setOk_made n ((toldL s n).set t true) hn.1
  have m2 := (madeS_ok n ((toldL s n).set t true) hn.1).2.2
  obtain ⟨ha1, ha2⟩ := addB_setOk hs ht
  refine set_eq h2 ha1 (fun u hu => ?_)
  rw [m2, ha2, decide_eq_true hu, Bool.true_and, List.getD_eq_getElem?_getD, List.getElem?_set]
  by_cases e : t = u
  · subst e
    rw [if_pos rfl, if_pos (by rw [toldL_length]; exact ht)]
    simp
  · rw [if_neg e, decide_eq_false (fun h => e h.symm), Bool.or_false]
    unfold toldL
    rw [List.getElem?_map, List.getElem?_range hu]
    rfl
end Go.Proofs.Ytpbnppeodoflcaa.PureD
end
section
namespace Go.Proofs.Ytpbnppeodoflcaa.PureD
open Go.RowKit Go.Proofs.Ytpbnppeodoflcaa.PDf Go.Proofs.Ytpbnppeodoflcaa.Pure Go.Proofs.Ytpbnppeodoflcaa.E Go.Proofs.YtpbnppeodoflcaaW.PrintWords Go.Proofs.YtpbnppeodoflcaaW.PrintLast Go.Proofs.YtpbnppeodoflcaaW.PrintMore
set_option linter.unusedVariables false
set_option linter.unusedSimpArgs false
theorem mask_no : ∀ m : Nat, m < 9 → ∀ c : Nat, c < 256 → ((List.range 8).all fun j => decide (j < m) || !bitB (c : Int) j) = true → Go.bits .andNot .u8 (c : Int) (2 ^ m - 1) = 0 := by decide +kernel
theorem in_byte {s : List Int} {i j : Nat} (hi : i < s.length) (hj : j < 8) : inS s ((8 * i + j : Nat) : Int) = bitB (rd s (i : Int)) j := by
  unfold inS
  rw [decide_eq_true (by omega), show (((8 * i + j : Nat) : Int) / 8) = (i : Int) from by omega, decide_eq_true (by omega), show (((8 * i + j : Nat) : Int) % 8).toNat = j from by omega]
  simp
/-- No byte of a set has a bit beyond the tracks. -/
theorem no_more {n : Nat} (hn : 1 ≤ n ∧ n ≤ 16) {s : List Int} (hs : SetOk n s) {i : Nat} (hi : i < s.length) : Go.bits .andNot .u8 (rd s (i : Int)) (rd (allB (n : Int)) (i : Int)) = 0 := by
  have hr := rd_nonneg hs.1 (i : Int)
  obtain ⟨c, hc⟩ := Int.eq_ofNat_of_zero_le hr.1
  have hl := hs.2.1
  have key : ∀ m : Nat, m < 9 → m = min 8 (n - 8 * i) → Go.bits .andNot .u8 (rd s (i : Int)) (2 ^ m - 1) = 0 := fun m hm he => by
    rw [hc]
    refine mask_no m hm c (by omega) (List.all_eq_true.2 fun j hj => ?_)
    have hj8 : j < 8 := List.mem_range.1 hj
    by_cases hjm : j < m
    · simp [hjm]
    · have := in_byte (s := s) hi hj8
      rw [hs.2.2 (8 * i + j) (by omega), hc] at this
      rw [← this]
      simp
  unfold allB
  by_cases h8 : (n : Int) ≤ 8
  · rw [if_pos h8]
    obtain rfl : i = 0 := by omega
    rw [Int.toNat_natCast]
    exact key n (by omega) (by omega)
  · rw [if_neg h8]
    rcases (show i = 0 ∨ i = 1 by omega) with rfl | rfl
    · exact key 8 (by decide) (by omega)
    · have := key (n - 8) (by omega) (by omega)
      rw [show ((n : Int) - 8).toNat = n - 8 from by omega]
      exact this
theorem plan_ok {c0 c2 c3 c4 c5 pr : Int} {n : Nat} (hc : CfgOk c0 (n : Int) c2 c3 c4 c5) (hp : 0 ≤ pr ∧ pr < c0) {s : List Int} (hs : SetOk n s) {i : Nat} (hi : i < s.length) :
    PageOk c0 (n : Int) pr (i : Int) ∧ planS c0 (n : Int) c2 c3 c4 c5 pr (i : Int) (rd s (i : Int)) = (atS c0 (n : Int) c2 pr (i : Int), [1, pr % 256, (i : Int) % 256, rd s (i : Int)] ++ List.replicate 28 0, 0) := by
  have h1 := hc.2.1
  have hl := hs.2.1
  have hP : PageOk c0 (n : Int) pr (i : Int) := ⟨hp, by omega, by unfold manyS; split <;> omega⟩
  refine ⟨hP, ?_⟩
  have ht : textS c0 (n : Int) c2 c3 c4 c5 pr (i : Int) (rd s (i : Int)) = ([1, pr % 256, (i : Int) % 256, rd s (i : Int)] ++ List.replicate 28 0, 0) := by
    unfold textS
    rw [if_pos hc, if_pos hP, if_pos (no_more (by omega) hs hi)]
  unfold planS
  rw [ht, if_pos rfl]
theorem sector_f (a b c : Int) : catamaranref13_Sector.f a b c = some ([1, a % 256, b % 256, c] ++ List.replicate 28 0) := by
  unfold catamaranref13_Sector.f
  simp only [Option.bind_some]
  rw [if_pos (by simp)]
theorem written_loop {c0 c2 c3 c4 c5 pr : Int} {n : Nat} (hc : CfgOk c0 (n : Int) c2 c3 c4 c5) (hp : 0 ≤ pr ∧ pr < c0) {s : List Int} (hs : SetOk n s) (which : List Bool) (hw : which.length = s.length) (A : Int → Bool) (hA : ∀ i : Nat, i < s.length → rdOf false which (i : Int) = A (i : Int)) (d : Nat) :
    ∀ (k i : Nat) (cur : List Int) (acts : List Act_), i + d = s.length → cur.length = s.length → acts.length ≤ i → d < k →
    catamaranref14_written.l0 k pr s which cur acts (i : Int) c0 (n : Int) c2 c3 c4 c5 = some ((eachF A (mkAct c0 (n : Int) c2 c3 c4 c5 pr) s d (i : Int) cur acts).1, flushS (eachF A (mkAct c0 (n : Int) c2 c3 c4 c5 pr) s d (i : Int) cur acts).2) := by
  have hl := hs.2.1
  have h1 := hc.2.1
  induction d with
  | zero =>
    intro k i cur acts hi hcur hac hk
    obtain ⟨k, rfl⟩ : ∃ m, k = m + 1 := ⟨k - 1, by omega⟩
    show (if (i : Int) < (cur.length : Int) then _ else _) = _
    rw [if_neg (by omega)]
    unfold eachF flushS
    by_cases h0 : acts.length = 0
    · rw [if_neg (by omega), if_pos h0]
    · rw [if_pos (by omega), if_neg h0, if_pos (by omega)]
      rfl
  | succ d ih =>
    intro k i cur acts hi hcur hac hk
    obtain ⟨k, rfl⟩ : ∃ m, k = m + 1 := ⟨k - 1, by omega⟩
    show (if (i : Int) < (cur.length : Int) then _ else _) = _
    rw [if_pos (by omega), if_pos (by omega), if_pos (by omega), hA i (by omega)]
    unfold eachF
    rw [wrap64_id (x := (i : Int) + 1) (by omega) (by omega), show ((i : Int) + 1) = ((i + 1 : Nat) : Int) from by omega]
    cases hAi : A (i : Int) with
    | true =>
      obtain ⟨hP, hpl⟩ := plan_ok hc hp hs (i := i) (by omega)
      rw [if_pos rfl, if_pos rfl, if_pos (by omega), ofpage c0 (n : Int) c2 c3 c4 c5 pr (i : Int) hc hP]
      simp only [Option.bind_some]
      rw [sector_f]
      simp only [Option.bind_some]
      rw [if_pos (show acts.length < 533096546800 by omega)]
      have hmk : mkAct c0 (n : Int) c2 c3 c4 c5 pr (i : Int) (rd s (i : Int)) = actOf 1 (atS c0 (n : Int) c2 pr (i : Int)) ([1, pr % 256, (i : Int) % 256, rd s (i : Int)] ++ List.replicate 28 0) := by
        unfold mkAct
        rw [hpl]
      rw [hmk]
      exact ih k (i + 1) _ _ (by omega) (by rw [List.length_set]; omega) (by rw [List.length_append]; simp; omega) (by omega)
    | false =>
      rw [if_neg (by simp), if_neg (by simp)]
      exact ih k (i + 1) _ _ (by omega) hcur (by omega) (by omega)
theorem written_f {c0 c2 c3 c4 c5 pr : Int} {n : Nat} (hc : CfgOk c0 (n : Int) c2 c3 c4 c5) (hp : 0 ≤ pr ∧ pr < c0) {marks s : List Int} (hs : SetOk n s) (hm : marks.length = s.length) (which : List Bool) (hw : which.length = s.length) (A : Int → Bool) (hA : ∀ i : Nat, i < s.length → rdOf false which (i : Int) = A (i : Int)) (k : Nat) :
    catamaranref14_written.f (k + 10) c0 (n : Int) c2 c3 c4 c5 pr marks s which = some (anewS A c0 (n : Int) c2 c3 c4 c5 pr marks s) := by
  have hl := hs.2.1
  have h1 := hc.2.1
  unfold catamaranref14_written.f
  simp only [Option.bind_some]
  rw [if_pos (by simp; omega), List.nil_append]
  have := written_loop hc hp hs which hw A hA s.length (k + 10) 0 marks [] (by omega) hm (by simp) (by omega)
  rw [show ((0 : Nat) : Int) = 0 from rfl] at this
  rw [this]
  unfold anewS eachS
  rw [hm]
end Go.Proofs.Ytpbnppeodoflcaa.PureD
end
section
namespace Go.Proofs.Ytpbnppeodoflcaa.PureD
open Go.RowKit Go.Proofs.Ytpbnppeodoflcaa.PDf Go.Proofs.Ytpbnppeodoflcaa.Pure Go.Proofs.Ytpbnppeodoflcaa.E Go.Proofs.YtpbnppeodoflcaaW.PrintWords Go.Proofs.YtpbnppeodoflcaaW.PrintLast Go.Proofs.YtpbnppeodoflcaaW.PrintMore
set_option linter.unusedVariables false
set_option linter.unusedSimpArgs false
/-- The reference's three answers. -/
theorem marked_f {c0 c2 c3 c4 c5 pr : Int} {n t : Nat} (hc : CfgOk c0 (n : Int) c2 c3 c4 c5) (hp : 0 ≤ pr ∧ pr < c0) {marks work : List Int} (hm : SetOk n marks) (hw : SetOk n work) (ht : t < n) (k : Nat) :
    catamaranref14_Marked.f (k + 50) c0 (n : Int) c2 c3 c4 c5 pr marks work (t : Int) = some (anewS (askM (inS marks (t : Int)) (t : Int)) c0 (n : Int) c2 c3 c4 c5 pr marks (addB (bothS marks work) (t : Int))) := by
  have h1 := hc.2.1
  have hl := hm.2.1
  obtain ⟨hb, _⟩ := both_ok hm hw
  obtain ⟨ha, _⟩ := addB_setOk hb ht
  have hal := ha.2.1
  have htd : wrap64 (Int.tdiv (t : Int) 8) = ((t / 8 : Nat) : Int) := by
    rw [Int.tdiv_eq_ediv_of_nonneg (by omega), wrap64_id (by omega) (by omega)]
    omega
  unfold catamaranref14_Marked.f
  rw [htd, if_pos (by omega), if_pos (by rw [Int.toNat_natCast]; omega)]
  simp only [Option.bind_some]
  rw [in_f hm.1 (by omega) (by omega)]
  simp only [Option.bind_some]
  rw [if_pos (by omega), if_pos (by rw [List.length_replicate]; omega), both_ref (by omega) hm hw]
  simp only [Option.bind_some]
  rw [with_ref (by omega) hb ht]
  simp only [Option.bind_some]
  have hwr := written_f hc hp (marks := marks) ha (by omega) ((List.replicate ((marks.length : Int)).toNat false).set (((t / 8 : Nat) : Int)).toNat (!inS marks (t : Int))) (by rw [List.length_set, List.length_replicate]; omega) (askM (inS marks (t : Int)) (t : Int)) (fun i hi => by
    unfold rdOf askM
    rw [htd, Int.toNat_natCast, Int.toNat_natCast, Int.toNat_natCast, List.getD_eq_getElem?_getD, List.getElem?_set]
    by_cases e : t / 8 = i
    · subst e
      rw [if_pos rfl, if_pos (by rw [List.length_replicate]; omega)]
      simp
    · rw [if_neg e, List.getElem?_replicate]
      have : ((i : Int) == ((t / 8 : Nat) : Int)) = false := by
        rw [beq_eq_false_iff_ne]
        omega
      rw [this]
      split <;> simp) (k + 40)
  rw [show k + 40 + 10 = k + 50 from by omega] at hwr
  rw [hwr]
  simp only [Option.bind_some]
end Go.Proofs.Ytpbnppeodoflcaa.PureD
end
section
namespace Go.Proofs.Ytpbnppeodoflcaa.PureD
open Go.RowKit Go.Proofs.Ytpbnppeodoflcaa.PDf Go.Proofs.Ytpbnppeodoflcaa.Pure Go.Proofs.Ytpbnppeodoflcaa.E Go.Proofs.YtpbnppeodoflcaaW.PrintWords Go.Proofs.YtpbnppeodoflcaaW.PrintLast Go.Proofs.YtpbnppeodoflcaaW.PrintMore
set_option linter.unusedVariables false
set_option linter.unusedSimpArgs false
theorem ask_zero {c0 c1 c2 c3 c4 c5 pr : Int} {l : List (List Int)} (h : askS c0 c1 c2 c3 c4 c5 pr l = 0) : CfgOk c0 c1 c2 c3 c4 c5 ∧ (0 ≤ pr ∧ pr < c0) ∧ ∀ s ∈ l, ckS c1 s = 0 := by
  unfold askS at h
  by_cases hc : CfgOk c0 c1 c2 c3 c4 c5
  · rw [if_pos hc] at h
    by_cases hp : pr < 0 ∨ c0 ≤ pr
    · rw [if_pos hp] at h
      exact absurd h (by decide)
    · rw [if_neg hp] at h
      by_cases ha : (l.all fun s => ckS c1 s == 0) = true
      · exact ⟨hc, by omega, fun s hs => by simpa using List.all_eq_true.1 ha s hs⟩
      · rw [if_neg ha] at h
        exact absurd h (by decide)
  · rw [if_neg hc] at h
    exact absurd h (by decide)
def markR (c0 c1 c2 c3 c4 c5 pr : Int) (marks work : List Int) (t : Int) : List Int × List Act_ × Int :=
  if askS c0 c1 c2 c3 c4 c5 pr [marks, work] = 0 then (if t < 0 ∨ t ≥ c1 then ([], [], 2) else ((anewS (askM (inS marks t) t) c0 c1 c2 c3 c4 c5 pr marks (addB (bothS marks work) t)).1, (anewS (askM (inS marks t) t) c0 c1 c2 c3 c4 c5 pr marks (addB (bothS marks work) t)).2, 0)) else ([], [], askS c0 c1 c2 c3 c4 c5 pr [marks, work])
theorem mark_own (c0 c1 c2 c3 c4 c5 pr t : Int) (marks work : List Int) (h0 : (Lit.int .i64 c0).wf = true) (ha : okB marks = true) (hb : okB work = true) :
    diff_Mark.f c0 c1 c2 c3 c4 c5 pr marks work t = some (markR c0 c1 c2 c3 c4 c5 pr marks work t) := by
  unfold diff_Mark.f markR
  rw [asked_own c0 c1 c2 c3 c4 c5 pr [marks, work] h0 (by simp) (by intro s hs; simp at hs; rcases hs with rfl | rfl <;> assumption), Option.bind_some]
  by_cases he : askS c0 c1 c2 c3 c4 c5 pr [marks, work] = 0
  · rw [if_pos he, if_pos he]
    obtain ⟨hc, hp, hck⟩ := ask_zero he
    have h1 := hc.2.1
    obtain ⟨n, rfl⟩ := Int.eq_ofNat_of_zero_le (show 0 ≤ c1 by omega)
    have hk1 := hck marks (by simp)
    have hm := setOk_of ha hk1
    have hw := setOk_of hb (hck work (by simp))
    have hq : q_Has.f (n : Int) marks t = some (if t < 0 ∨ t ≥ (n : Int) then (false, 2) else (inS marks t, 0)) := by
      unfold q_Has.f hasS
      rw [if_pos ha, if_pos hk1]
    rw [hq, Option.bind_some]
    by_cases ht : t < 0 ∨ t ≥ (n : Int)
    · rw [if_pos ht, if_pos ht]
      rfl
    · rw [if_neg ht, if_neg ht, if_pos rfl]
      obtain ⟨u, rfl⟩ := Int.eq_ofNat_of_zero_le (show 0 ≤ t by omega)
      obtain ⟨hbo, _⟩ := both_ok hm hw
      have l1 := hm.2.1
      have l2 := hw.2.1
      have hg : markG c0 (n : Int) marks work (u : Int) = true := by
        have hq2 : q_Has.f (n : Int) (bothS marks work) (u : Int) = some (inS (bothS marks work) (u : Int), 0) := by
          unfold q_Has.f hasS
          rw [if_pos hbo.1, if_pos (ck_of (by omega) hbo), if_neg ht]
        unfold markG
        rw [hq2, h0, decide_eq_true (by omega), decide_eq_true (by omega), decide_eq_true (by omega), decide_eq_true (by omega), decide_eq_true (by omega)]
        rfl
      rw [if_pos hg, put_add hbo.1 (by omega)]
  · rw [if_neg he, if_neg he]
theorem mark_j0 (k : Nat) (x1 : Int) (x2 x3 : List Int) (x4 x13 : Int) (b : Bool) (c0 c1 c2 c3 c4 c5 : Int) : catamaranref14_Mark.j0 (k + 1) x1 x2 x3 x4 x13 b c0 c1 c2 c3 c4 c5 = if b = true then some (([] : List Int), ([] : List Act_), 2) else (if x13 = 0 then ((catamaranref14_Marked.f k c0 c1 c2 c3 c4 c5 x1 x2 x3 x4).bind fun bt => some (bt.1, bt.2, 0)) else some (([] : List Int), ([] : List Act_), x13)) := rfl
theorem mark_ref (c0 c1 c2 c3 c4 c5 pr t : Int) (marks work : List Int) (h0 : (Lit.int .i64 c0).wf = true) (ha : okB marks = true) (hb : okB work = true) (k : Nat) :
    catamaranref14_Mark.f (k + 60) c0 c1 c2 c3 c4 c5 pr marks work t = some (markR c0 c1 c2 c3 c4 c5 pr marks work t) := by
  unfold catamaranref14_Mark.f markR
  rw [show k + 60 = (k + 19) + 41 from by omega, asked_ref c0 c1 c2 c3 c4 c5 pr marks work h0 ha hb, Option.bind_some, show k + 19 + 41 = (k + 59) + 1 from by omega]
  by_cases he : askS c0 c1 c2 c3 c4 c5 pr [marks, work] = 0
  · rw [if_pos he, if_pos he, he]
    obtain ⟨hc, hp, hck⟩ := ask_zero he
    have h1 := hc.2.1
    obtain ⟨n, rfl⟩ := Int.eq_ofNat_of_zero_le (show 0 ≤ c1 by omega)
    have hm := setOk_of ha (hck marks (by simp))
    have hw := setOk_of hb (hck work (by simp))
    by_cases ht : t < 0 ∨ t ≥ (n : Int)
    · rw [if_pos ht]
      by_cases h2 : t < 0
      · rw [if_pos h2]
        rfl
      · rw [if_neg h2, decide_eq_true (show t ≥ (n : Int) by omega)]
        rfl
    · rw [if_neg (show ¬ t < 0 by omega), decide_eq_false (show ¬ t ≥ (n : Int) by omega), if_neg ht]
      obtain ⟨u, rfl⟩ := Int.eq_ofNat_of_zero_le (show 0 ≤ t by omega)
      rw [mark_j0, if_neg (by simp), if_pos rfl, show k + 59 = (k + 9) + 50 from by omega, marked_f hc hp hm hw (by omega), Option.bind_some]
  · rw [if_neg he, if_neg he]
    rw [mark_j0, if_neg (by simp), if_neg he]
theorem same_loop (l : List Act_) (hl : l.length ≤ 1000) (d : Nat) : ∀ (k i : Nat), i + d = l.length → d < k → catamaranref12_SameActs.l0 k l l (i : Int) = some true := by
  induction d with
  | zero =>
    intro k i hi hk
    obtain ⟨k, rfl⟩ : ∃ m, k = m + 1 := ⟨k - 1, by omega⟩
    show (if (i : Int) < (l.length : Int) then _ else _) = _
    rw [if_neg (by omega)]
  | succ d ih =>
    intro k i hi hk
    obtain ⟨k, rfl⟩ : ∃ m, k = m + 1 := ⟨k - 1, by omega⟩
    show (if (i : Int) < (l.length : Int) then _ else _) = _
    rw [if_pos (by omega), if_pos (by omega), if_pos (by omega), if_pos rfl, if_pos rfl, if_pos rfl, wrap64_id (x := (i : Int) + 1) (by omega) (by omega), show ((i : Int) + 1) = ((i + 1 : Nat) : Int) from by omega]
    exact ih k (i + 1) (by omega) (by omega)
theorem same_self (l : List Act_) (hl : l.length ≤ 150) (k : Nat) : catamaranref12_SameActs.f (k + 200) l l = some true := by
  unfold catamaranref12_SameActs.f
  rw [if_pos rfl]
  exact same_loop l (by omega) l.length (k + 200) 0 (by omega) (by omega)
theorem eachF_one (A : Int → Bool) (mk : Int → Int → Act_) (set_ : List Int) : ∀ (m : Nat) (i : Int) (cur : List Int) (acts : List Act_), (eachF A mk set_ m i cur acts).1.length = cur.length
  | 0, _, _, _ => rfl
  | m + 1, i, cur, acts => by
    unfold eachF
    split
    · rw [eachF_one A mk set_ m, List.length_set]
    · rw [eachF_one A mk set_ m]
theorem anew_len (A : Int → Bool) (c0 c1 c2 c3 c4 c5 pr : Int) (marks set_ : List Int) : (anewS A c0 c1 c2 c3 c4 c5 pr marks set_).1.length = marks.length ∧ (anewS A c0 c1 c2 c3 c4 c5 pr marks set_).2.length ≤ marks.length + 1 := by
  unfold anewS eachS
  refine ⟨eachF_one _ _ _ _ _ _ _, ?_⟩
  have := eachF_len A (mkAct c0 c1 c2 c3 c4 c5 pr) set_ marks.length 0 marks []
  unfold flushS
  split
  · simpa using Nat.le_trans this (by simp)
  · simpa using this
theorem markR_len (c0 c1 c2 c3 c4 c5 pr t : Int) (marks work : List Int) (h : marks.length ≤ 100) : (markR c0 c1 c2 c3 c4 c5 pr marks work t).1.length ≤ 150 ∧ (markR c0 c1 c2 c3 c4 c5 pr marks work t).2.1.length ≤ 150 := by
  unfold markR
  split
  · split
    · simp
    · have := anew_len (askM (inS marks t) t) c0 c1 c2 c3 c4 c5 pr marks (addB (bothS marks work) t)
      exact ⟨by show (anewS _ _ _ _ _ _ _ _ _ _).1.length ≤ 150; omega, by show (anewS _ _ _ _ _ _ _ _ _ _).2.length ≤ 150; omega⟩
  · simp
end Go.Proofs.Ytpbnppeodoflcaa.PureD
end
section
namespace Go.Proofs.Ytpbnppeodoflcaa.PDiffMarks
open Go.Proofs.Ytpbnppeodoflcaa.PDf
open Go.Proofs.Ytpbnppeodoflcaa.E
open Go.RowKit Go.Proofs.YtpbnppeodoflcaaW.PrintWords Go.Proofs.YtpbnppeodoflcaaW.PrintLast Go.Proofs.YtpbnppeodoflcaaW.PrintMore
attribute [local go_sem] max2_int min2_int max_two min_two max_three min_three max_four min_four   -- for this text's walks alone
set_option linter.unusedVariables false
set_option linter.unusedSimpArgs false
mutual
def catamaranlaw14_DiffMarks.j0 : Nat → Int → List Int → List Int → Int → Bool → Int → Int → Int → Int → Int → Int → Option (Bool)
  | 0, _, _, _, _, _, _, _, _, _, _, _ => none
  | k + 1, x1, x2, x3, x4, x28, x102000, x102001, x102002, x102003, x102004, x102005 => if x28 = true then (some true) else ((some (([] : List Int) : List Int)).bind fun y102 => (if y102.length + x2.length < 140737488355328 then ((some (y102 ++ x2 : List Int)).bind fun y105 => ((some (([] : List Int) : List Int)).bind fun y108 => (if y108.length + x3.length < 140737488355328 then ((some (y108 ++ x3 : List Int)).bind fun y111 => ((diff_Mark.f x102000 x102001 x102002 x102003 x102004 x102005 x1 y105 y111 x4).bind fun bt114 => ((catamaranref14_Mark.f k x102000 x102001 x102002 x102003 x102004 x102005 x1 x2 x3 x4).bind fun bt121 => (if (strOfNums bt114.1).toList = (strOfNums bt121.1).toList then ((catamaranref12_SameActs.f k bt114.2.1 bt121.2.1).bind fun t128 => (if t128 = true then (catamaranlaw14_DiffMarks.j1 k x2 x3 y105 y111 bt114.1 (bt114.2.2 == bt121.2.2)) else (catamaranlaw14_DiffMarks.j1 k x2 x3 y105 y111 bt114.1 false))) else (catamaranlaw14_DiffMarks.j1 k x2 x3 y105 y111 bt114.1 false))))) else (none)))) else (none)))
def catamaranlaw14_DiffMarks.j1 : Nat → List Int → List Int → List Int → List Int → List Int → Bool → Option (Bool)
  | 0, _, _, _, _, _, _ => none
  | k + 1, x2, x3, x11, x12, x13, x19 => catamaranlaw14_DiffMarks.l0 k x2 x3 x11 x12 x13 x19 0
def catamaranlaw14_DiffMarks.l0 : Nat → List Int → List Int → List Int → List Int → List Int → Bool → Int → Option (Bool)
  | 0, _, _, _, _, _, _, _ => none
  | k + 1, x2, x3, x11, x12, x13, x19, x20 => if x20 < (x13.length : Int) then (if 0 ≤ x20 then (catamaranlaw14_DiffMarks.l0 k x2 x3 x11 x12 (x13.set (x20 : Int).toNat (((rd x13 x20) + 1) % 256)) x19 (wrap64 (x20 + 1))) else (none)) else (if x19 = true then (if (strOfNums x11).toList = (strOfNums x2).toList then (some ((strOfNums x12).toList == (strOfNums x3).toList)) else (some false)) else (some false))
end
def catamaranlaw14_DiffMarks.f (k : Nat) (a0_0 : Int) (a0_1 : Int) (a0_2 : Int) (a0_3 : Int) (a0_4 : Int) (a0_5 : Int) (a1 : Int) (l2 : List Int) (l3 : List Int) (a4 : Int) : Option (Bool) := if (l2.length : Int) > 100 then (catamaranlaw14_DiffMarks.j0 k a1 l2 l3 a4 true a0_0 a0_1 a0_2 a0_3 a0_4 a0_5) else (catamaranlaw14_DiffMarks.j0 k a1 l2 l3 a4 (decide ((l3.length : Int) > 100)) a0_0 a0_1 a0_2 a0_3 a0_4 a0_5)
set_option maxHeartbeats 8000000 in
set_option maxRecDepth 100000 in
theorem catamaranlaw14_DiffMarks.calls (k : Nat) (a0_0 : Int) (a0_1 : Int) (a0_2 : Int) (a0_3 : Int) (a0_4 : Int) (a0_5 : Int) (a1 : Int) (A2 : Option Addr) (c2 : Nat) (l2 : List Int) (A3 : Option Addr) (c3 : Nat) (l3 : List Int) (a4 : Int) (r : Bool) (w : World) (hr2 : Kd.C (Kd.int .u8) w A2 l2.length l2) (hc2 : l2.length ≤ c2) (hr3 : Kd.C (Kd.int .u8) w A3 l3.length l3) (hc3 : l3.length ≤ c3) (h : catamaranlaw14_DiffMarks.f k a0_0 a0_1 a0_2 a0_3 a0_4 a0_5 a1 l2 l3 a4 = some r) :
    Calls Try.prog 13 #[.agg #[.int .i64 a0_0, .int .i64 a0_1, .int .i64 a0_2, .int .i64 a0_3, .int .i64 a0_4, .int .i64 a0_5], .int .i64 a1, .slice A2 l2.length c2, .slice A3 l3.length c3, .int .i64 a4] w fun e w' => e = .returned (.bool r) ∧ Below w.heap.size w w' := by
  have hu23 := Try.underlying23
  have HR2 := Aside0.mk hr2
  have HC2 := Aside0.mk hc2
  clear hr2 hc2
  have HR3 := Aside0.mk hr3
  have HC3 := Aside0.mk hc3
  clear hr3 hc3
  have HB := Aside0.mk (Below.refl w.heap.size w)
  have H : (if (l2.length : Int) > 100 then (catamaranlaw14_DiffMarks.j0 k a1 l2 l3 a4 true a0_0 a0_1 a0_2 a0_3 a0_4 a0_5) else (catamaranlaw14_DiffMarks.j0 k a1 l2 l3 a4 (decide ((l3.length : Int) > 100)) a0_0 a0_1 a0_2 a0_3 a0_4 a0_5)) = some r := h
  clear h
  have HC6 := Aside0.mk H
  clear H
  go_enter Try.func13, Try.ntmps13
  go_upto_region 1 with (first | ((with_reducible refine gate_dst (N := 5) rfl ?_); (try (refine gate_guard (by rfl) ?_; dsimp only)); refine box_event ?hg (N := 5) ?hd (cs := #[.int .i64 a0_0, .int .i64 a0_1, .int .i64 a0_2, .int .i64 a0_3, .int .i64 a0_4, .int .i64 a0_5]) (t := 23) ?hr ?_; (case hd => rfl); (case hg => rfl); (case hr => first | (go_simp; done) | (go_simp; rfl)); intro gb101 hg w7 hbox hb; have n0_ := Aside0.mk (below_step (by repeat (first | (with_reducible first | exact HB.out | apply below_alloc | apply pw_below_drewN | apply below_drew1) | exact HB.out)) hb); have n1_ := Aside0.mk (hbox); have n2_ := Aside0.mk ((by rw [hg]; exact (below_size (by repeat (first | (with_reducible first | exact HB.out | apply below_alloc | apply pw_below_drewN | apply below_drew1) | exact HB.out))) : w.heap.size ≤ gb101)); have n3_ := Aside0.mk ((by rw [hg]; exact (below_size (by repeat (first | (with_reducible first | exact HB.out | apply below_alloc | apply pw_below_drewN | apply below_drew1) | exact HB.out))) : w.heap.size ≤ gb101)); clear HB; have HB := n0_; have BK101 := n1_; have GW101 := n2_; have GE101 := n3_; clear n0_ n1_ n2_ n3_; clear hb hbox hg))
  (try simp only [Act.put, List.setIfInBounds_toArray, List.set_cons_zero, List.set_cons_succ])
  go_cut [28] (fun v28 wc => ∃ (kq : Nat) (x28_5 : Bool), v28 = .bool x28_5 ∧ Aside0 (catamaranlaw14_DiffMarks.j0 kq a1 l2 l3 a4 x28_5 a0_0 a0_1 a0_2 a0_3 a0_4 a0_5 = some r) ∧ Aside0 (kq ≤ k) ∧ Aside0 (wc.heap[gb101]? = some (.cells #[.int .i64 a0_0, .int .i64 a0_1, .int .i64 a0_2, .int .i64 a0_3, .int .i64 a0_4, .int .i64 a0_5] 23 (0, 0))) ∧ Aside0 (Below w.heap.size w wc))
  case first =>
    have H := HC6.out
    clear HC6
    by_cases c8 : (l2.length : Int) > 100
    · rw [if_pos c8] at H
      have c8b0 : decide (100 < (l2.length : Int)) = true := decide_eq_true c8
      have c8b1 : decide (100 < l2.length) = true := decide_eq_true (by omega)
      clear c8
      (first | rw [c8b0] | (simp only [i64_w, i32_w]; rw [c8b0]) | skip)
      have H' := Aside0.mk H
      clear H
      go_wp2
      go_meet
      case rel => exact ⟨_, (true), (by first | rfl | (simp; done) | (simp [*]; done)), H', ⟨by first | omega | exact Nat.le_refl _⟩, ⟨by (with_reducible repeat (first | refine blk_drewN ?_ _ | refine blk_drew ?_ | refine blk_alloc ?_ _)); exact BK101.out⟩, ⟨by repeat (first | (with_reducible first | exact HB.out | apply below_alloc | apply pw_below_drewN | apply below_drew1 | refine below_set ?_ GE101.out) | exact HB.out)⟩⟩
    · rw [if_neg c8] at H
      have c8b0 : decide (100 < (l2.length : Int)) = false := decide_eq_false c8
      have c8b1 : decide (100 < l2.length) = false := decide_eq_false (by omega)
      clear c8
      (first | rw [c8b0] | (simp only [i64_w, i32_w]; rw [c8b0]) | skip)
      have H' := Aside0.mk H
      clear H
      go_wp2
      go_meet
      case rel => exact ⟨_, (decide ((l3.length : Int) > 100)), (by first | rfl | (simp; done) | (simp [*]; done)), H', ⟨by first | omega | exact Nat.le_refl _⟩, ⟨by (with_reducible repeat (first | refine blk_drewN ?_ _ | refine blk_drew ?_ | refine blk_alloc ?_ _)); exact BK101.out⟩, ⟨by repeat (first | (with_reducible first | exact HB.out | apply below_alloc | apply pw_below_drewN | apply below_drew1 | refine below_set ?_ GE101.out) | exact HB.out)⟩⟩
  case rest =>
    clear HC6
    try clear c1
    try clear c2
    try clear p2
    try clear c3
    try clear c8
    try clear c8b0
    try clear c8b1
    obtain ⟨kq, x28_5, rfl, HA, HJ5, BK101, HB⟩ := hcut
    cases kq with
    | zero => exact absurd HA.out (by simp [catamaranlaw14_DiffMarks.j0])
    | succ kj5 =>
      have H := HA.out
      clear HA
      simp only [catamaranlaw14_DiffMarks.j0] at H
      by_cases c9 : x28_5 = true
      · subst c9
        have H1 : (some true) = some r := by rw [if_pos rfl] at H; exact H
        clear H
        have H := H1
        clear H1
        obtain rfl := Option.some.inj H
        go_wp2
        go_ret
        exact ⟨by first | rfl | (simp [errW_none, errW_some] <;> rfl) | (simp [*, errW_none, errW_some] <;> rfl), by repeat (first | (with_reducible first | exact HB.out | apply below_alloc | apply pw_below_drewN | apply below_drew1 | refine below_set ?_ GE101.out) | exact HB.out)⟩
      · replace c9 := Bool.eq_false_iff.mpr c9
        subst c9
        have H1 : ((some (([] : List Int) : List Int)).bind fun y102 => (if y102.length + l2.length < 140737488355328 then ((some (y102 ++ l2 : List Int)).bind fun y105 => ((some (([] : List Int) : List Int)).bind fun y108 => (if y108.length + l3.length < 140737488355328 then ((some (y108 ++ l3 : List Int)).bind fun y111 => ((diff_Mark.f a0_0 a0_1 a0_2 a0_3 a0_4 a0_5 a1 y105 y111 a4).bind fun bt114 => ((catamaranref14_Mark.f kj5 a0_0 a0_1 a0_2 a0_3 a0_4 a0_5 a1 l2 l3 a4).bind fun bt121 => (if (strOfNums bt114.1).toList = (strOfNums bt121.1).toList then ((catamaranref12_SameActs.f kj5 bt114.2.1 bt121.2.1).bind fun t128 => (if t128 = true then (catamaranlaw14_DiffMarks.j1 kj5 l2 l3 y105 y111 bt114.1 (bt114.2.2 == bt121.2.2)) else (catamaranlaw14_DiffMarks.j1 kj5 l2 l3 y105 y111 bt114.1 false))) else (catamaranlaw14_DiffMarks.j1 kj5 l2 l3 y105 y111 bt114.1 false))))) else (none)))) else (none))) = some r := by rw [if_neg (show ¬ (false = true) by decide)] at H; exact H
        clear H
        have H := H1
        clear H1
        obtain ⟨y102, hy102⟩ : ∃ y_ : List Int, y_ = (([] : List Int)) := ⟨_, rfl⟩
        replace H : (if y102.length + l2.length < 140737488355328 then ((some (y102 ++ l2 : List Int)).bind fun y105 => ((some (([] : List Int) : List Int)).bind fun y108 => (if y108.length + l3.length < 140737488355328 then ((some (y108 ++ l3 : List Int)).bind fun y111 => ((diff_Mark.f a0_0 a0_1 a0_2 a0_3 a0_4 a0_5 a1 y105 y111 a4).bind fun bt114 => ((catamaranref14_Mark.f kj5 a0_0 a0_1 a0_2 a0_3 a0_4 a0_5 a1 l2 l3 a4).bind fun bt121 => (if (strOfNums bt114.1).toList = (strOfNums bt121.1).toList then ((catamaranref12_SameActs.f kj5 bt114.2.1 bt121.2.1).bind fun t128 => (if t128 = true then (catamaranlaw14_DiffMarks.j1 kj5 l2 l3 y105 y111 bt114.1 (bt114.2.2 == bt121.2.2)) else (catamaranlaw14_DiffMarks.j1 kj5 l2 l3 y105 y111 bt114.1 false))) else (catamaranlaw14_DiffMarks.j1 kj5 l2 l3 y105 y111 bt114.1 false))))) else (none)))) else (none)) = some r := by first | (rw [hy102]; with_reducible exact H) | (have H2_ := (Option.bind_some _ _).symm.trans H; rw [hy102]; with_reducible exact H2_) | (have H2_ := (Option.bind_some _ _).symm.trans H; with_reducible exact H2_) | with_reducible exact H | (rw [hy102]; exact H) | exact H
        have Ny102 := Aside0.mk hy102
        clear hy102
        by_cases c10 : y102.length + l2.length < 140737488355328
        · rw [if_pos c10] at H
          have LMc10 := Aside0.mk c10
          clear c10
          obtain ⟨y105, hy105⟩ : ∃ y_ : List Int, y_ = (y102 ++ l2) := ⟨_, rfl⟩
          replace H : ((some (([] : List Int) : List Int)).bind fun y108 => (if y108.length + l3.length < 140737488355328 then ((some (y108 ++ l3 : List Int)).bind fun y111 => ((diff_Mark.f a0_0 a0_1 a0_2 a0_3 a0_4 a0_5 a1 y105 y111 a4).bind fun bt114 => ((catamaranref14_Mark.f kj5 a0_0 a0_1 a0_2 a0_3 a0_4 a0_5 a1 l2 l3 a4).bind fun bt121 => (if (strOfNums bt114.1).toList = (strOfNums bt121.1).toList then ((catamaranref12_SameActs.f kj5 bt114.2.1 bt121.2.1).bind fun t128 => (if t128 = true then (catamaranlaw14_DiffMarks.j1 kj5 l2 l3 y105 y111 bt114.1 (bt114.2.2 == bt121.2.2)) else (catamaranlaw14_DiffMarks.j1 kj5 l2 l3 y105 y111 bt114.1 false))) else (catamaranlaw14_DiffMarks.j1 kj5 l2 l3 y105 y111 bt114.1 false))))) else (none))) = some r := by first | (rw [hy105]; with_reducible exact H) | (have H2_ := (Option.bind_some _ _).symm.trans H; rw [hy105]; with_reducible exact H2_) | (have H2_ := (Option.bind_some _ _).symm.trans H; with_reducible exact H2_) | with_reducible exact H | (rw [hy105]; exact H) | exact H
          have Ny105 := Aside0.mk hy105
          clear hy105
          obtain ⟨y108, hy108⟩ : ∃ y_ : List Int, y_ = (([] : List Int)) := ⟨_, rfl⟩
          replace H : (if y108.length + l3.length < 140737488355328 then ((some (y108 ++ l3 : List Int)).bind fun y111 => ((diff_Mark.f a0_0 a0_1 a0_2 a0_3 a0_4 a0_5 a1 y105 y111 a4).bind fun bt114 => ((catamaranref14_Mark.f kj5 a0_0 a0_1 a0_2 a0_3 a0_4 a0_5 a1 l2 l3 a4).bind fun bt121 => (if (strOfNums bt114.1).toList = (strOfNums bt121.1).toList then ((catamaranref12_SameActs.f kj5 bt114.2.1 bt121.2.1).bind fun t128 => (if t128 = true then (catamaranlaw14_DiffMarks.j1 kj5 l2 l3 y105 y111 bt114.1 (bt114.2.2 == bt121.2.2)) else (catamaranlaw14_DiffMarks.j1 kj5 l2 l3 y105 y111 bt114.1 false))) else (catamaranlaw14_DiffMarks.j1 kj5 l2 l3 y105 y111 bt114.1 false))))) else (none)) = some r := by first | (rw [hy108]; with_reducible exact H) | (have H2_ := (Option.bind_some _ _).symm.trans H; rw [hy108]; with_reducible exact H2_) | (have H2_ := (Option.bind_some _ _).symm.trans H; with_reducible exact H2_) | with_reducible exact H | (rw [hy108]; exact H) | exact H
          have Ny108 := Aside0.mk hy108
          clear hy108
          by_cases c11 : y108.length + l3.length < 140737488355328
          · rw [if_pos c11] at H
            have LMc11 := Aside0.mk c11
            clear c11
            obtain ⟨y111, hy111⟩ : ∃ y_ : List Int, y_ = (y108 ++ l3) := ⟨_, rfl⟩
            replace H : ((diff_Mark.f a0_0 a0_1 a0_2 a0_3 a0_4 a0_5 a1 y105 y111 a4).bind fun bt114 => ((catamaranref14_Mark.f kj5 a0_0 a0_1 a0_2 a0_3 a0_4 a0_5 a1 l2 l3 a4).bind fun bt121 => (if (strOfNums bt114.1).toList = (strOfNums bt121.1).toList then ((catamaranref12_SameActs.f kj5 bt114.2.1 bt121.2.1).bind fun t128 => (if t128 = true then (catamaranlaw14_DiffMarks.j1 kj5 l2 l3 y105 y111 bt114.1 (bt114.2.2 == bt121.2.2)) else (catamaranlaw14_DiffMarks.j1 kj5 l2 l3 y105 y111 bt114.1 false))) else (catamaranlaw14_DiffMarks.j1 kj5 l2 l3 y105 y111 bt114.1 false)))) = some r := by first | (rw [hy111]; with_reducible exact H) | (have H2_ := (Option.bind_some _ _).symm.trans H; rw [hy111]; with_reducible exact H2_) | (have H2_ := (Option.bind_some _ _).symm.trans H; with_reducible exact H2_) | with_reducible exact H | (rw [hy111]; exact H) | exact H
            have Ny111 := Aside0.mk hy111
            clear hy111
            replace H := Option.bind_eq_some_iff.mp H
            obtain ⟨⟨t114, t117, t120⟩, A120, H⟩ := H
            replace H : ((catamaranref14_Mark.f kj5 a0_0 a0_1 a0_2 a0_3 a0_4 a0_5 a1 l2 l3 a4).bind fun bt121 => (if (strOfNums t114).toList = (strOfNums bt121.1).toList then ((catamaranref12_SameActs.f kj5 t117 bt121.2.1).bind fun t128 => (if t128 = true then (catamaranlaw14_DiffMarks.j1 kj5 l2 l3 y105 y111 t114 (t120 == bt121.2.2)) else (catamaranlaw14_DiffMarks.j1 kj5 l2 l3 y105 y111 t114 false))) else (catamaranlaw14_DiffMarks.j1 kj5 l2 l3 y105 y111 t114 false))) = some r := H
            have A12 := Aside0.mk A120
            clear A120
            replace H := Option.bind_eq_some_iff.mp H
            obtain ⟨⟨t121, t124, t127⟩, A130, H⟩ := H
            replace H : (if (strOfNums t114).toList = (strOfNums t121).toList then ((catamaranref12_SameActs.f kj5 t117 t124).bind fun t128 => (if t128 = true then (catamaranlaw14_DiffMarks.j1 kj5 l2 l3 y105 y111 t114 (t120 == t127)) else (catamaranlaw14_DiffMarks.j1 kj5 l2 l3 y105 y111 t114 false))) else (catamaranlaw14_DiffMarks.j1 kj5 l2 l3 y105 y111 t114 false)) = some r := H
            have A13 := Aside0.mk A130
            clear A130
            have HC14 := Aside0.mk H
            clear H
            go_upto_region 6 with (first | ((with_reducible refine gate_dst (N := 29) rfl ?_); (try (refine gate_guard (by rfl) ?_; dsimp only)); refine Kd.R_lit (Kd.int .u8) _ 5 ?hg (N := 29) ?hd (xs := ([] : List Int)) (inner := []) (ok := fun _ => True) (okp := fun _ => True) ?hr ?hp (fun _ hk => hk) trivial (Below.refl _ _) (Nat.le_refl _) (by simp) ?_; (case hd => rfl); (case hg => rfl); (case hr => first | (go_simp; done) | (go_simp; rfl)); (case hp => exact (Reps.none _ _)); intro v103 w15 ho16 hb hg_ hnew_; clear hg_ hnew_; (first | rw [← Ny102.out] at ho16 | (simp only [Int.reduceToNat] at ho16; rw [← Ny102.out] at ho16)); have n0_ := Aside0.mk (Kd.R_lower ho16 (below_size (by repeat (first | (with_reducible first | exact HB.out | apply below_alloc | apply pw_below_drewN | apply below_drew1 | refine below_set ?_ GE101.out) | exact HB.out)))); have n1_ := Aside0.mk (blk_below (g := gb101) (o := .cells #[.int .i64 a0_0, .int .i64 a0_1, .int .i64 a0_2, .int .i64 a0_3, .int .i64 a0_4, .int .i64 a0_5] 23 (0, 0)) (by (with_reducible repeat (first | refine blk_drewN ?_ _ | refine blk_drew ?_ | refine blk_alloc ?_ _)); exact BK101.out) hb); have n2_ := Aside0.mk (below_step (by repeat (first | (with_reducible first | exact HB.out | apply below_alloc | apply pw_below_drewN | apply below_drew1 | refine below_set ?_ GE101.out) | exact HB.out)) hb); clear BK101; clear HB; have HO104 := n0_; have BK101 := n1_; have HB := n2_; clear n0_ n1_ n2_; clear hb ho16) | ((with_reducible refine gate_builtin (b := .append) (xs := #[.tmp 29, .tmp 30]) rfl ?_); (try (refine gate_guard (by rfl) ?_; dsimp only)); at_builtin; refine Kd.R_append_rows (Kd.int .u8) (w0 := w) w.heap.size rfl (.tmp 29) (.tmp 30) 24 5 (.int .u8 0) 1 rfl Try.underlying24 info5 rfl (by decide) (by omega) v103 y102 l2 _ _ _ (fun _ => True) (fun _ => False) rfl rfl ?aO ?aR (fun _ _ h => h) (fun _ h => h.elim) ?aF ?aB ?aS ?aL ?_; (case aR => repeat (first | exact (Kd.C_below HR2.out HB.out) | (with_reducible refine Kd.C_alloc ?_ _) | (with_reducible refine Kd.C_drewN ?_ _) | (with_reducible refine Kd.C_drew ?_))); (case aB => exact (by repeat (first | (with_reducible first | exact HB.out | apply below_alloc | apply pw_below_drewN | apply below_drew1 | refine below_set ?_ GE101.out) | exact HB.out))); (case aF => exact (fun _ _ => trivial)); (case aO => exact (by (with_reducible repeat (first | apply Kd.R_alloc | apply Kd.R_drewN | apply Kd.R_drew)); exact HO104.out)); (case aS => exact (below_size (by repeat (first | (with_reducible first | exact HB.out | apply below_alloc | apply pw_below_drewN | apply below_drew1 | refine below_set ?_ GE101.out) | exact HB.out)))); (case aL => have := LMc10.out; omega); intro v106 w17 ho hb hg hat; (first | rw [← Ny105.out] at ho | (simp only [Int.reduceToNat] at ho; rw [← Ny105.out] at ho)); have n0_ := Aside0.mk (blk_grown (g := gb101) (o := .cells #[.int .i64 a0_0, .int .i64 a0_1, .int .i64 a0_2, .int .i64 a0_3, .int .i64 a0_4, .int .i64 a0_5] 23 (0, 0)) (by (with_reducible repeat (first | refine blk_drewN ?_ _ | refine blk_drew ?_ | refine blk_alloc ?_ _)); exact BK101.out) hg (Kd.R_ne HO104.out BK101.out (by decide))); have n1_ := Aside0.mk (hb); have n2_ := Aside0.mk (ho); clear BK101; clear HB; clear HO104; have BK101 := n0_; have HB := n1_; have HO107 := n2_; clear n0_ n1_ n2_; clear ho hb hg hat) | ((with_reducible refine gate_dst (N := 32) rfl ?_); (try (refine gate_guard (by rfl) ?_; dsimp only)); refine Kd.R_lit (Kd.int .u8) _ 5 ?hg (N := 32) ?hd (xs := ([] : List Int)) (inner := []) (ok := fun _ => True) (okp := fun _ => True) ?hr ?hp (fun _ hk => hk) trivial (Below.refl _ _) (Nat.le_refl _) (by simp) ?_; (case hd => rfl); (case hg => rfl); (case hr => first | (go_simp; done) | (go_simp; rfl)); (case hp => exact (Reps.none _ _)); intro v109 w18 ho19 hb hg_ hnew_; clear hg_ hnew_; (first | rw [← Ny108.out] at ho19 | (simp only [Int.reduceToNat] at ho19; rw [← Ny108.out] at ho19)); have n0_ := Aside0.mk (Kd.R_elder' (by (with_reducible repeat (first | apply Kd.R_alloc | apply Kd.R_drewN | apply Kd.R_drew)); exact HO107.out) (Kd.R_base ho19) hb); have n1_ := Aside0.mk (Kd.R_lower (Kd.R_new' ho19 (Kd.R_lt (by (with_reducible repeat (first | apply Kd.R_alloc | apply Kd.R_drewN | apply Kd.R_drew)); exact HO107.out))) (below_size (by repeat (first | (with_reducible first | exact HB.out | apply below_alloc | apply pw_below_drewN | apply below_drew1 | refine below_set ?_ GE101.out) | exact HB.out)))); have n2_ := Aside0.mk (blk_below (g := gb101) (o := .cells #[.int .i64 a0_0, .int .i64 a0_1, .int .i64 a0_2, .int .i64 a0_3, .int .i64 a0_4, .int .i64 a0_5] 23 (0, 0)) (by (with_reducible repeat (first | refine blk_drewN ?_ _ | refine blk_drew ?_ | refine blk_alloc ?_ _)); exact BK101.out) hb); have n3_ := Aside0.mk (below_step (by repeat (first | (with_reducible first | exact HB.out | apply below_alloc | apply pw_below_drewN | apply below_drew1 | refine below_set ?_ GE101.out) | exact HB.out)) hb); clear HO107; clear BK101; clear HB; have HO107 := n0_; have HO110 := n1_; have BK101 := n2_; have HB := n3_; clear n0_ n1_ n2_ n3_; clear hb ho19) | ((with_reducible refine gate_builtin (b := .append) (xs := #[.tmp 32, .tmp 33]) rfl ?_); (try (refine gate_guard (by rfl) ?_; dsimp only)); at_builtin; refine Kd.R_append_rows (Kd.int .u8) (w0 := w) w.heap.size rfl (.tmp 32) (.tmp 33) 24 5 (.int .u8 0) 1 rfl Try.underlying24 info5 rfl (by decide) (by omega) v109 y108 l3 _ _ _ (fun k_ => some k_ ≠ (v106 : Value).ownBlock) (fun _ => False) rfl rfl ?aO ?aR (fun _ _ h => h) (fun _ h => h.elim) ?aF ?aB ?aS ?aL ?_; (case aR => repeat (first | exact (Kd.C_below HR3.out HB.out) | (with_reducible refine Kd.C_alloc ?_ _) | (with_reducible refine Kd.C_drewN ?_ _) | (with_reducible refine Kd.C_drew ?_))); (case aB => exact (by repeat (first | (with_reducible first | exact HB.out | apply below_alloc | apply pw_below_drewN | apply below_drew1 | refine below_set ?_ GE101.out) | exact HB.out))); (case aF => exact (fun k_ hk => Kd.fresh' (Kd.R_lt (by (with_reducible repeat (first | apply Kd.R_alloc | apply Kd.R_drewN | apply Kd.R_drew)); exact HO107.out)) k_ hk)); (case aO => exact (by (with_reducible repeat (first | apply Kd.R_alloc | apply Kd.R_drewN | apply Kd.R_drew)); exact Kd.R_mono HO110.out (fun _ hk => hk.2))); (case aS => exact (below_size (by repeat (first | (with_reducible first | exact HB.out | apply below_alloc | apply pw_below_drewN | apply below_drew1 | refine below_set ?_ GE101.out) | exact HB.out)))); (case aL => have := LMc11.out; omega); intro v112 w20 ho hb hg hat; (first | rw [← Ny111.out] at ho | (simp only [Int.reduceToNat] at ho; rw [← Ny111.out] at ho)); have n0_ := Aside0.mk (blk_grown (g := gb101) (o := .cells #[.int .i64 a0_0, .int .i64 a0_1, .int .i64 a0_2, .int .i64 a0_3, .int .i64 a0_4, .int .i64 a0_5] 23 (0, 0)) (by (with_reducible repeat (first | refine blk_drewN ?_ _ | refine blk_drew ?_ | refine blk_alloc ?_ _)); exact BK101.out) hg (Kd.R_ne HO110.out BK101.out (by decide))); have n1_ := Aside0.mk (Kd.R_after (ok := (fun _ => True)) (by (with_reducible repeat (first | apply Kd.R_alloc | apply Kd.R_drewN | apply Kd.R_drew)); exact HO107.out) hg hat); have n2_ := Aside0.mk (hb); have n3_ := Aside0.mk (ho); clear BK101; clear HO107; clear HB; clear HO110; have BK101 := n0_; have HO107 := n1_; have HB := n2_; have HO113 := n3_; clear n0_ n1_ n2_ n3_; clear ho hb hg hat; have hcz21_0 : w20.cell? ⟨gb101, 0, none⟩ = some (.int .i64 a0_0) := (blk_cell BK101.out 0).trans rfl; have hcz21_1 : w20.cell? ⟨gb101, 1, none⟩ = some (.int .i64 a0_1) := (blk_cell BK101.out 1).trans rfl; have hcz21_2 : w20.cell? ⟨gb101, 2, none⟩ = some (.int .i64 a0_2) := (blk_cell BK101.out 2).trans rfl; have hcz21_3 : w20.cell? ⟨gb101, 3, none⟩ = some (.int .i64 a0_3) := (blk_cell BK101.out 3).trans rfl; have hcz21_4 : w20.cell? ⟨gb101, 4, none⟩ = some (.int .i64 a0_4) := (blk_cell BK101.out 4).trans rfl; have hcz21_5 : w20.cell? ⟨gb101, 5, none⟩ = some (.int .i64 a0_5) := (blk_cell BK101.out 5).trans rfl; have hfz21_0 := blk_frozen BK101.out 0; have hfz21_1 := blk_frozen BK101.out 1; have hfz21_2 := blk_frozen BK101.out 2; have hfz21_3 := blk_frozen BK101.out 3; have hfz21_4 := blk_frozen BK101.out 4; have hfz21_5 := blk_frozen BK101.out 5; obtain ⟨Ao22, co22, eo22⟩ := Kd.R_slice HO107.out; subst eo22; obtain ⟨Ao23, co23, eo23⟩ := Kd.R_slice HO113.out; subst eo23) | ((with_reducible refine gate_callee (f := 72) rfl ?_); refine goesL_ (some 41) rfl rfl Try.func72 (by kernel_rfl) rfl #[.agg #[.int .i64 a0_0, .int .i64 a0_1, .int .i64 a0_2, .int .i64 a0_3, .int .i64 a0_4, .int .i64 a0_5], .int .i64 a1, .slice Ao22 y105.length co22, .slice Ao23 y111.length co23, .int .i64 a4] rfl (by (try simp only [List.map_toArray, List.map_cons, List.map_nil]); first | done | rfl | (simp only [List.length_drop, List.length_take]; rfl)) ?_; (with_reducible refine (diff_Mark.calls a0_0 a0_1 a0_2 a0_3 a0_4 a0_5 a1 _ _ y105 _ _ y111 a4 t114 t117 t120 _ ?side1 ?side2 ?side3 ?side4 A12.out).mono ?_); (case side1 => repeat (first | exact (Kd.R_reads' HO107.out).2.2 | (with_reducible refine Kd.C_alloc ?_ _) | (with_reducible refine Kd.C_drewN ?_ _) | (with_reducible refine Kd.C_drew ?_))); (case side2 => exact (Kd.R_reads' HO107.out).2.1); (case side3 => repeat (first | exact (Kd.R_reads' HO113.out).2.2 | (with_reducible refine Kd.C_alloc ?_ _) | (with_reducible refine Kd.C_drewN ?_ _) | (with_reducible refine Kd.C_drew ?_))); (case side4 => exact (Kd.R_reads' HO113.out).2.1); rintro e w24 ⟨v115, v118, rfl, ho0, ho1, hb⟩; refine ⟨_, rfl, ?_⟩; have n0_ := Aside0.mk (Kd.R_elder' (by (with_reducible repeat (first | apply Kd.R_alloc | apply Kd.R_drewN | apply Kd.R_drew)); exact HO107.out) (Kd.R_base ho0) hb); have n1_ := Aside0.mk (Kd.R_elder' (by (with_reducible repeat (first | apply Kd.R_alloc | apply Kd.R_drewN | apply Kd.R_drew)); exact HO113.out) (Kd.R_base ho0) hb); have n2_ := Aside0.mk (Kd.R_lower (Kd.R_new' (Kd.R_new' ho0 (Kd.R_lt (by (with_reducible repeat (first | apply Kd.R_alloc | apply Kd.R_drewN | apply Kd.R_drew)); exact HO107.out))) (Kd.R_lt (by (with_reducible repeat (first | apply Kd.R_alloc | apply Kd.R_drewN | apply Kd.R_drew)); exact HO113.out))) (below_size (by repeat (first | (with_reducible first | exact HB.out | apply below_alloc | apply pw_below_drewN | apply below_drew1 | refine below_set ?_ GE101.out) | exact HB.out)))); have n3_ := Aside0.mk (Kd.S_lower (Kd.S_new' (Kd.S_new' ho1 (Kd.R_lt (by (with_reducible repeat (first | apply Kd.R_alloc | apply Kd.R_drewN | apply Kd.R_drew)); exact HO107.out))) (Kd.R_lt (by (with_reducible repeat (first | apply Kd.R_alloc | apply Kd.R_drewN | apply Kd.R_drew)); exact HO113.out))) (below_size (by repeat (first | (with_reducible first | exact HB.out | apply below_alloc | apply pw_below_drewN | apply below_drew1 | refine below_set ?_ GE101.out) | exact HB.out)))); have n4_ := Aside0.mk (blk_below (g := gb101) (o := .cells #[.int .i64 a0_0, .int .i64 a0_1, .int .i64 a0_2, .int .i64 a0_3, .int .i64 a0_4, .int .i64 a0_5] 23 (0, 0)) (by (with_reducible repeat (first | refine blk_drewN ?_ _ | refine blk_drew ?_ | refine blk_alloc ?_ _)); exact BK101.out) hb); have n5_ := Aside0.mk (below_step (by repeat (first | (with_reducible first | exact HB.out | apply below_alloc | apply pw_below_drewN | apply below_drew1 | refine below_set ?_ GE101.out) | exact HB.out)) hb); clear HO107; clear HO113; clear BK101; clear HB; have HO107 := n0_; have HO113 := n1_; have HO116 := n2_; have HO119 := n3_; have BK101 := n4_; have HB := n5_; clear n0_ n1_ n2_ n3_ n4_ n5_; (try clear hb); (try clear hb2); (try clear hk); (try clear hi); (try clear ho0); (try clear ho1); have hcz25_0 : w24.cell? ⟨gb101, 0, none⟩ = some (.int .i64 a0_0) := (blk_cell BK101.out 0).trans rfl; have hcz25_1 : w24.cell? ⟨gb101, 1, none⟩ = some (.int .i64 a0_1) := (blk_cell BK101.out 1).trans rfl; have hcz25_2 : w24.cell? ⟨gb101, 2, none⟩ = some (.int .i64 a0_2) := (blk_cell BK101.out 2).trans rfl; have hcz25_3 : w24.cell? ⟨gb101, 3, none⟩ = some (.int .i64 a0_3) := (blk_cell BK101.out 3).trans rfl; have hcz25_4 : w24.cell? ⟨gb101, 4, none⟩ = some (.int .i64 a0_4) := (blk_cell BK101.out 4).trans rfl; have hcz25_5 : w24.cell? ⟨gb101, 5, none⟩ = some (.int .i64 a0_5) := (blk_cell BK101.out 5).trans rfl; have hfz25_0 := blk_frozen BK101.out 0; have hfz25_1 := blk_frozen BK101.out 1; have hfz25_2 := blk_frozen BK101.out 2; have hfz25_3 := blk_frozen BK101.out 3; have hfz25_4 := blk_frozen BK101.out 4; have hfz25_5 := blk_frozen BK101.out 5) | ((with_reducible refine gate_callee (f := 73) rfl ?_); refine goesL_ (some 51) rfl rfl Try.func73 (by kernel_rfl) rfl #[.agg #[.int .i64 a0_0, .int .i64 a0_1, .int .i64 a0_2, .int .i64 a0_3, .int .i64 a0_4, .int .i64 a0_5], .int .i64 a1, .slice A2 l2.length c2, .slice A3 l3.length c3, .int .i64 a4] rfl (by (try simp only [List.map_toArray, List.map_cons, List.map_nil]); first | done | rfl | (simp only [List.length_drop, List.length_take]; rfl)) ?_; (with_reducible refine (catamaranref14_Mark.calls kj5 a0_0 a0_1 a0_2 a0_3 a0_4 a0_5 a1 _ _ l2 _ _ l3 a4 t121 t124 t127 _ ?side1 ?side2 ?side3 ?side4 A13.out).mono ?_); (case side1 => repeat (first | exact (Kd.C_below HR2.out HB.out) | (with_reducible refine Kd.C_alloc ?_ _) | (with_reducible refine Kd.C_drewN ?_ _) | (with_reducible refine Kd.C_drew ?_))); (case side2 => exact HC2.out); (case side3 => repeat (first | exact (Kd.C_below HR3.out HB.out) | (with_reducible refine Kd.C_alloc ?_ _) | (with_reducible refine Kd.C_drewN ?_ _) | (with_reducible refine Kd.C_drew ?_))); (case side4 => exact HC3.out); rintro e w26 ⟨v122, v125, rfl, ho0, ho1, hb⟩; refine ⟨_, rfl, ?_⟩; have n0_ := Aside0.mk (Kd.R_elder' (by (with_reducible repeat (first | apply Kd.R_alloc | apply Kd.R_drewN | apply Kd.R_drew)); exact HO107.out) (Kd.R_base ho0) hb); have n1_ := Aside0.mk (Kd.R_elder' (by (with_reducible repeat (first | apply Kd.R_alloc | apply Kd.R_drewN | apply Kd.R_drew)); exact HO113.out) (Kd.R_base ho0) hb); have n2_ := Aside0.mk (Kd.R_elder' (by (with_reducible repeat (first | apply Kd.R_alloc | apply Kd.R_drewN | apply Kd.R_drew)); exact HO116.out) (Kd.R_base ho0) hb); have n3_ := Aside0.mk (Kd.S_mono (Kd.S_told (Kd.S_told (Kd.S_old (by (with_reducible repeat (first | apply Kd.S_alloc | apply Kd.S_drewN | apply Kd.S_drew)); exact HO119.out) hb) (Kd.R_base ho0)) (Kd.S_base ho1)) (fun _ h_ => h_.1)); have n4_ := Aside0.mk (Kd.R_lower (Kd.R_new' (Kd.R_new' (Kd.R_new' ho0 (Kd.R_lt (by (with_reducible repeat (first | apply Kd.R_alloc | apply Kd.R_drewN | apply Kd.R_drew)); exact HO107.out))) (Kd.R_lt (by (with_reducible repeat (first | apply Kd.R_alloc | apply Kd.R_drewN | apply Kd.R_drew)); exact HO113.out))) (Kd.R_lt (by (with_reducible repeat (first | apply Kd.R_alloc | apply Kd.R_drewN | apply Kd.R_drew)); exact HO116.out))) (below_size (by repeat (first | (with_reducible first | exact HB.out | apply below_alloc | apply pw_below_drewN | apply below_drew1 | refine below_set ?_ GE101.out) | exact HB.out)))); have n5_ := Aside0.mk (Kd.S_lower (Kd.S_new' (Kd.S_new' (Kd.S_new' (Kd.S_new' ho1 (Kd.R_lt (by (with_reducible repeat (first | apply Kd.R_alloc | apply Kd.R_drewN | apply Kd.R_drew)); exact HO107.out))) (Kd.R_lt (by (with_reducible repeat (first | apply Kd.R_alloc | apply Kd.R_drewN | apply Kd.R_drew)); exact HO113.out))) (Kd.R_lt (by (with_reducible repeat (first | apply Kd.R_alloc | apply Kd.R_drewN | apply Kd.R_drew)); exact HO116.out))) (Kd.S_lt (by (with_reducible repeat (first | apply Kd.S_alloc | apply Kd.S_drewN | apply Kd.S_drew)); exact HO119.out))) (below_size (by repeat (first | (with_reducible first | exact HB.out | apply below_alloc | apply pw_below_drewN | apply below_drew1 | refine below_set ?_ GE101.out) | exact HB.out)))); have n6_ := Aside0.mk (blk_below (g := gb101) (o := .cells #[.int .i64 a0_0, .int .i64 a0_1, .int .i64 a0_2, .int .i64 a0_3, .int .i64 a0_4, .int .i64 a0_5] 23 (0, 0)) (by (with_reducible repeat (first | refine blk_drewN ?_ _ | refine blk_drew ?_ | refine blk_alloc ?_ _)); exact BK101.out) hb); have n7_ := Aside0.mk (below_step (by repeat (first | (with_reducible first | exact HB.out | apply below_alloc | apply pw_below_drewN | apply below_drew1 | refine below_set ?_ GE101.out) | exact HB.out)) hb); clear HO107; clear HO113; clear HO116; clear HO119; clear BK101; clear HB; have HO107 := n0_; have HO113 := n1_; have HO116 := n2_; have HO119 := n3_; have HO123 := n4_; have HO126 := n5_; have BK101 := n6_; have HB := n7_; clear n0_ n1_ n2_ n3_ n4_ n5_ n6_ n7_; (try clear hb); (try clear hb2); (try clear hk); (try clear hi); (try clear ho0); (try clear ho1)))
            (try simp only [Act.put, List.setIfInBounds_toArray, List.set_cons_zero, List.set_cons_succ])
            go_cut [19] (fun v19 wc => ∃ (kq : Nat) (x19_13 : Bool), v19 = .bool x19_13 ∧ Aside0 (catamaranlaw14_DiffMarks.j1 kq l2 l3 y105 y111 t114 x19_13 = some r) ∧ Aside0 (kq ≤ kj5) ∧ Aside0 (Kd.R (Kd.int .u8) 5 wc w.heap.size (fun k_ => some k_ ≠ ((.slice Ao23 y111.length co23) : Value).ownBlock ∧ some k_ ≠ (v115 : Value).ownBlock) (.slice Ao22 y105.length co22) y105) ∧ Aside0 (Kd.R (Kd.int .u8) 5 wc w.heap.size (fun k_ => some k_ ≠ ((.slice Ao22 y105.length co22) : Value).ownBlock ∧ some k_ ≠ (v115 : Value).ownBlock) (.slice Ao23 y111.length co23) y111) ∧ Aside0 (Kd.R (Kd.int .u8) 5 wc w.heap.size (fun k_ => some k_ ≠ ((.slice Ao22 y105.length co22) : Value).ownBlock ∧ some k_ ≠ ((.slice Ao23 y111.length co23) : Value).ownBlock) v115 t114) ∧ Aside0 (wc.heap[gb101]? = some (.cells #[.int .i64 a0_0, .int .i64 a0_1, .int .i64 a0_2, .int .i64 a0_3, .int .i64 a0_4, .int .i64 a0_5] 23 (0, 0))) ∧ Aside0 (Below w.heap.size w wc))
            case first =>
              have H := HC14.out
              clear HC14
              by_cases c27 : (strOfNums t114).toList = (strOfNums t121).toList
              · rw [if_pos c27] at H
                have c27b0 : ((strOfNums t114).toList == (strOfNums t121).toList) = true := beq_iff_eq.mpr c27
                have c27b1 : ((strOfNums t114).toList != (strOfNums t121).toList) = false := bne_eq_false_iff_eq.mpr c27
                clear c27
                (first | rw [c27b0] | (simp only [i64_w, i32_w]; rw [c27b0]) | skip)
                replace H := Option.bind_eq_some_iff.mp H
                obtain ⟨t128, A280, H⟩ := H
                replace H : (if t128 = true then (catamaranlaw14_DiffMarks.j1 kj5 l2 l3 y105 y111 t114 (t120 == t127)) else (catamaranlaw14_DiffMarks.j1 kj5 l2 l3 y105 y111 t114 false)) = some r := H
                have A28 := Aside0.mk A280
                clear A280
                by_cases c29 : t128 = true
                · subst c29
                  have H1 : (catamaranlaw14_DiffMarks.j1 kj5 l2 l3 y105 y111 t114 (t120 == t127)) = some r := by rw [if_pos rfl] at H; exact H
                  clear H
                  have H := H1
                  clear H1
                  have H' := Aside0.mk H
                  clear H
                  have hcv30 := own_string (P := Try.prog) Try.underlying24 Try.underlying5 Try.underlying9 (Kd.own_of_R HO116.out)
                  have hcv31 := fun m_ : Nat => own_string (P := Try.prog) Try.underlying24 Try.underlying5 Try.underlying9 (Kd.own_of_R (Kd.R_drewN HO116.out m_))
                  have hcv32 := own_string (P := Try.prog) Try.underlying24 Try.underlying5 Try.underlying9 (Kd.own_of_R HO123.out)
                  have hcv33 := fun m_ : Nat => own_string (P := Try.prog) Try.underlying24 Try.underlying5 Try.underlying9 (Kd.own_of_R (Kd.R_drewN HO123.out m_))
                  obtain ⟨Ao34, co34, eo34⟩ := Kd.S_slice HO119.out
                  subst eo34
                  obtain ⟨Ao35, co35, eo35⟩ := Kd.S_slice HO126.out
                  subst eo35
                  go_wp2_with (first | (go_at_call 71; (with_reducible refine (catamaranref12_SameActs.calls kj5 _ _ t117 _ _ t124 true _ ?side1 ?side2 ?side3 ?side4 A28.out).mono ?_); (case side1 => repeat (first | exact (Kd.S_reads' HO119.out).2.2 | (with_reducible refine Kd.C_alloc ?_ _) | (with_reducible refine Kd.C_drewN ?_ _) | (with_reducible refine Kd.C_drew ?_))); (case side2 => exact (Kd.S_reads' HO119.out).2.1); (case side3 => repeat (first | exact (Kd.S_reads' HO126.out).2.2 | (with_reducible refine Kd.C_alloc ?_ _) | (with_reducible refine Kd.C_drewN ?_ _) | (with_reducible refine Kd.C_drew ?_))); (case side4 => exact (Kd.S_reads' HO126.out).2.1); rintro e w' ⟨rfl, ⟨nd, rfl⟩⟩))
                  go_meet
                  case rel => exact ⟨_, ((t120 == t127)), (by first | rfl | (simp; done) | (simp [*]; done)), H', ⟨by have := HJ5.out; first | omega | exact Nat.le_refl _⟩, ⟨by (with_reducible repeat (first | apply Kd.R_alloc | apply Kd.R_drewN | apply Kd.R_drew)); exact Kd.R_mono HO107.out (fun _ hk => ⟨hk.1.1.2, hk.1.2⟩)⟩, ⟨by (with_reducible repeat (first | apply Kd.R_alloc | apply Kd.R_drewN | apply Kd.R_drew)); exact Kd.R_mono HO113.out (fun _ hk => ⟨hk.1.1, hk.1.2⟩)⟩, ⟨by (with_reducible repeat (first | apply Kd.R_alloc | apply Kd.R_drewN | apply Kd.R_drew)); exact Kd.R_mono HO116.out (fun _ hk => ⟨hk.1.1.2, hk.1.2⟩)⟩, ⟨by (with_reducible repeat (first | refine blk_drewN ?_ _ | refine blk_drew ?_ | refine blk_alloc ?_ _)); exact BK101.out⟩, ⟨by repeat (first | (with_reducible first | exact HB.out | apply below_alloc | apply pw_below_drewN | apply below_drew1 | refine below_set ?_ GE101.out) | exact HB.out)⟩⟩
                · replace c29 := Bool.eq_false_iff.mpr c29
                  subst c29
                  have H1 : (catamaranlaw14_DiffMarks.j1 kj5 l2 l3 y105 y111 t114 false) = some r := by rw [if_neg (show ¬ (false = true) by decide)] at H; exact H
                  clear H
                  have H := H1
                  clear H1
                  have H' := Aside0.mk H
                  clear H
                  have hcv36 := own_string (P := Try.prog) Try.underlying24 Try.underlying5 Try.underlying9 (Kd.own_of_R HO116.out)
                  have hcv37 := fun m_ : Nat => own_string (P := Try.prog) Try.underlying24 Try.underlying5 Try.underlying9 (Kd.own_of_R (Kd.R_drewN HO116.out m_))
                  have hcv38 := own_string (P := Try.prog) Try.underlying24 Try.underlying5 Try.underlying9 (Kd.own_of_R HO123.out)
                  have hcv39 := fun m_ : Nat => own_string (P := Try.prog) Try.underlying24 Try.underlying5 Try.underlying9 (Kd.own_of_R (Kd.R_drewN HO123.out m_))
                  obtain ⟨Ao40, co40, eo40⟩ := Kd.S_slice HO119.out
                  subst eo40
                  obtain ⟨Ao41, co41, eo41⟩ := Kd.S_slice HO126.out
                  subst eo41
                  go_wp2_with (first | (go_at_call 71; (with_reducible refine (catamaranref12_SameActs.calls kj5 _ _ t117 _ _ t124 false _ ?side1 ?side2 ?side3 ?side4 A28.out).mono ?_); (case side1 => repeat (first | exact (Kd.S_reads' HO119.out).2.2 | (with_reducible refine Kd.C_alloc ?_ _) | (with_reducible refine Kd.C_drewN ?_ _) | (with_reducible refine Kd.C_drew ?_))); (case side2 => exact (Kd.S_reads' HO119.out).2.1); (case side3 => repeat (first | exact (Kd.S_reads' HO126.out).2.2 | (with_reducible refine Kd.C_alloc ?_ _) | (with_reducible refine Kd.C_drewN ?_ _) | (with_reducible refine Kd.C_drew ?_))); (case side4 => exact (Kd.S_reads' HO126.out).2.1); rintro e w' ⟨rfl, ⟨nd, rfl⟩⟩))
                  go_meet
                  case rel => exact ⟨_, (false), (by first | rfl | (simp; done) | (simp [*]; done)), H', ⟨by have := HJ5.out; first | omega | exact Nat.le_refl _⟩, ⟨by (with_reducible repeat (first | apply Kd.R_alloc | apply Kd.R_drewN | apply Kd.R_drew)); exact Kd.R_mono HO107.out (fun _ hk => ⟨hk.1.1.2, hk.1.2⟩)⟩, ⟨by (with_reducible repeat (first | apply Kd.R_alloc | apply Kd.R_drewN | apply Kd.R_drew)); exact Kd.R_mono HO113.out (fun _ hk => ⟨hk.1.1, hk.1.2⟩)⟩, ⟨by (with_reducible repeat (first | apply Kd.R_alloc | apply Kd.R_drewN | apply Kd.R_drew)); exact Kd.R_mono HO116.out (fun _ hk => ⟨hk.1.1.2, hk.1.2⟩)⟩, ⟨by (with_reducible repeat (first | refine blk_drewN ?_ _ | refine blk_drew ?_ | refine blk_alloc ?_ _)); exact BK101.out⟩, ⟨by repeat (first | (with_reducible first | exact HB.out | apply below_alloc | apply pw_below_drewN | apply below_drew1 | refine below_set ?_ GE101.out) | exact HB.out)⟩⟩
              · rw [if_neg c27] at H
                have c27b0 : ((strOfNums t114).toList == (strOfNums t121).toList) = false := beq_eq_false_iff_ne.mpr c27
                have c27b1 : ((strOfNums t114).toList != (strOfNums t121).toList) = true := bne_iff_ne.mpr c27
                (first | rw [c27b0] | (simp only [i64_w, i32_w]; rw [c27b0]) | skip)
                have H' := Aside0.mk H
                clear H
                have hcv42 := own_string (P := Try.prog) Try.underlying24 Try.underlying5 Try.underlying9 (Kd.own_of_R HO116.out)
                have hcv43 := fun m_ : Nat => own_string (P := Try.prog) Try.underlying24 Try.underlying5 Try.underlying9 (Kd.own_of_R (Kd.R_drewN HO116.out m_))
                have hcv44 := own_string (P := Try.prog) Try.underlying24 Try.underlying5 Try.underlying9 (Kd.own_of_R HO123.out)
                have hcv45 := fun m_ : Nat => own_string (P := Try.prog) Try.underlying24 Try.underlying5 Try.underlying9 (Kd.own_of_R (Kd.R_drewN HO123.out m_))
                go_wp2
                go_meet
                case rel => exact ⟨_, (false), (by first | rfl | (simp; done) | (simp [*]; done)), H', ⟨by have := HJ5.out; first | omega | exact Nat.le_refl _⟩, ⟨by (with_reducible repeat (first | apply Kd.R_alloc | apply Kd.R_drewN | apply Kd.R_drew)); exact Kd.R_mono HO107.out (fun _ hk => ⟨hk.1.1.2, hk.1.2⟩)⟩, ⟨by (with_reducible repeat (first | apply Kd.R_alloc | apply Kd.R_drewN | apply Kd.R_drew)); exact Kd.R_mono HO113.out (fun _ hk => ⟨hk.1.1, hk.1.2⟩)⟩, ⟨by (with_reducible repeat (first | apply Kd.R_alloc | apply Kd.R_drewN | apply Kd.R_drew)); exact Kd.R_mono HO116.out (fun _ hk => ⟨hk.1.1.2, hk.1.2⟩)⟩, ⟨by (with_reducible repeat (first | refine blk_drewN ?_ _ | refine blk_drew ?_ | refine blk_alloc ?_ _)); exact BK101.out⟩, ⟨by repeat (first | (with_reducible first | exact HB.out | apply below_alloc | apply pw_below_drewN | apply below_drew1 | refine below_set ?_ GE101.out) | exact HB.out)⟩⟩
            case rest =>
              clear HC14
              try clear c1
              try clear c2
              try clear p2
              try clear c3
              try clear hcv3
              try clear hcv4
              try clear c7
              try clear c8
              try clear c8b0
              try clear c8b1
              try clear c9
              try clear c10
              try clear c11
              try clear c13
              try clear c27
              try clear c27b0
              try clear c27b1
              try clear c29
              try clear hcv30
              try clear hcv31
              try clear hcv32
              try clear hcv33
              try clear hcv36
              try clear hcv37
              try clear hcv38
              try clear hcv39
              try clear hcv42
              try clear hcv43
              try clear hcv44
              try clear hcv45
              try clear hcz21_0
              try clear hcz21_1
              try clear hcz21_2
              try clear hcz21_3
              try clear hcz21_4
              try clear hcz21_5
              try clear hcz25_0
              try clear hcz25_1
              try clear hcz25_2
              try clear hcz25_3
              try clear hcz25_4
              try clear hcz25_5
              try clear hfz21_0
              try clear hfz21_1
              try clear hfz21_2
              try clear hfz21_3
              try clear hfz21_4
              try clear hfz21_5
              try clear hfz25_0
              try clear hfz25_1
              try clear hfz25_2
              try clear hfz25_3
              try clear hfz25_4
              try clear hfz25_5
              try clear p2
              obtain ⟨kq, x19_13, rfl, HA, HJ13, HO_11, HO_12, HO_13, BK101, HB⟩ := hcut
              cases kq with
              | zero => exact absurd HA.out (by simp [catamaranlaw14_DiffMarks.j1])
              | succ kj13 =>
                have H := HA.out
                clear HA
                simp only [catamaranlaw14_DiffMarks.j1] at H
                have H' := Aside0.mk H
                clear H
                go_wp2
                go_loopg [20] kj13 (fun kq v20 w' => ∃ (x13_3 : List Int) (x20_3 : Int), v20 = .int .i64 x20_3 ∧ Aside0 (catamaranlaw14_DiffMarks.l0 kq l2 l3 y105 y111 x13_3 x19_13 x20_3 = some r) ∧ Aside0 (kq ≤ kj13) ∧ Aside0 (Kd.R (Kd.int .u8) 5 w' w.heap.size (fun k_ => some k_ ≠ ((.slice Ao23 y111.length co23) : Value).ownBlock ∧ some k_ ≠ (v115 : Value).ownBlock) (.slice Ao22 y105.length co22) y105) ∧ Aside0 (Kd.R (Kd.int .u8) 5 w' w.heap.size (fun k_ => some k_ ≠ ((.slice Ao22 y105.length co22) : Value).ownBlock ∧ some k_ ≠ (v115 : Value).ownBlock) (.slice Ao23 y111.length co23) y111) ∧ Aside0 (Kd.R (Kd.int .u8) 5 w' w.heap.size (fun k_ => some k_ ≠ ((.slice Ao22 y105.length co22) : Value).ownBlock ∧ some k_ ≠ ((.slice Ao23 y111.length co23) : Value).ownBlock) v115 x13_3) ∧ Aside0 (w'.heap[gb101]? = some (.cells #[.int .i64 a0_0, .int .i64 a0_1, .int .i64 a0_2, .int .i64 a0_3, .int .i64 a0_4, .int .i64 a0_5] 23 (0, 0))) ∧ Aside0 (Below w.heap.size w w'))
                case atStart => exact ⟨(t114), (0), (by first | rfl | (simp; done) | (simp [*]; done)), H', ⟨Nat.le_refl _⟩, ⟨by (with_reducible repeat (first | apply Kd.R_alloc | apply Kd.R_drewN | apply Kd.R_drew)); exact HO_11.out⟩, ⟨by (with_reducible repeat (first | apply Kd.R_alloc | apply Kd.R_drewN | apply Kd.R_drew)); exact HO_12.out⟩, ⟨by (with_reducible repeat (first | apply Kd.R_alloc | apply Kd.R_drewN | apply Kd.R_drew)); exact HO_13.out⟩, ⟨by (with_reducible repeat (first | refine blk_drewN ?_ _ | refine blk_drew ?_ | refine blk_alloc ?_ _)); exact BK101.out⟩, ⟨by repeat (first | (with_reducible first | exact HB.out | apply below_alloc | apply pw_below_drewN | apply below_drew1 | refine below_set ?_ GE101.out) | exact HB.out)⟩⟩
                case round =>
                  clear H'
                  try clear c1
                  try clear c2
                  try clear p2
                  try clear c3
                  try clear hcv3
                  try clear hcv4
                  try clear c7
                  try clear c8
                  try clear c8b0
                  try clear c8b1
                  try clear c9
                  try clear c10
                  try clear c11
                  try clear c13
                  try clear c27
                  try clear c27b0
                  try clear c27b1
                  try clear c29
                  try clear hcv30
                  try clear hcv31
                  try clear hcv32
                  try clear hcv33
                  try clear hcv36
                  try clear hcv37
                  try clear hcv38
                  try clear hcv39
                  try clear hcv42
                  try clear hcv43
                  try clear hcv44
                  try clear hcv45
                  try clear hcz21_0
                  try clear hcz21_1
                  try clear hcz21_2
                  try clear hcz21_3
                  try clear hcz21_4
                  try clear hcz21_5
                  try clear hcz25_0
                  try clear hcz25_1
                  try clear hcz25_2
                  try clear hcz25_3
                  try clear hcz25_4
                  try clear hcz25_5
                  try clear hfz21_0
                  try clear hfz21_1
                  try clear hfz21_2
                  try clear hfz21_3
                  try clear hfz21_4
                  try clear hfz21_5
                  try clear hfz25_0
                  try clear hfz25_1
                  try clear hfz25_2
                  try clear hfz25_3
                  try clear hfz25_4
                  try clear hfz25_5
                  try clear p2
                  obtain ⟨x13_3, x20_3, rfl, HA, HK3, HO_11, HO_12, HO_13, BK101, HB⟩ := hrel
                  cases gk with
                  | zero => exact absurd HA.out (by simp [catamaranlaw14_DiffMarks.l0])
                  | succ k3 =>
                    have H := HA.out
                    clear HA
                    simp only [catamaranlaw14_DiffMarks.l0] at H
                    by_cases c46 : x20_3 < (x13_3.length : Int)
                    · rw [if_pos c46] at H
                      have c46b0 : decide (x20_3 < (x13_3.length : Int)) = true := decide_eq_true c46
                      clear c46
                      by_cases c47 : 0 ≤ x20_3
                      · rw [if_pos c47] at H
                        have c47b0 : decide (0 ≤ x20_3) = true := decide_eq_true c47
                        clear c47
                        obtain ⟨y130, hy130⟩ : ∃ y_ : List Int, y_ = (x13_3.set (x20_3 : Int).toNat (((rd x13_3 x20_3) + 1) % 256)) := ⟨_, rfl⟩
                        replace H : (catamaranlaw14_DiffMarks.l0 k3 l2 l3 y105 y111 y130 x19_13 (wrap64 (x20_3 + 1))) = some r := by first | (rw [hy130]; with_reducible exact H) | (have H2_ := (Option.bind_some _ _).symm.trans H; rw [hy130]; with_reducible exact H2_) | (have H2_ := (Option.bind_some _ _).symm.trans H; with_reducible exact H2_) | with_reducible exact H | (rw [hy130]; exact H) | exact H
                        have Ny130 := Aside0.mk hy130
                        clear hy130
                        have H' := Aside0.mk H
                        clear H
                        obtain ⟨Ao49, co49, eo49⟩ := Kd.R_slice HO_13.out
                        subst eo49
                        have p129 : 0 ≤ (x20_3 : Int) := of_decide_eq_true (by first | (with_reducible assumption) | assumption)
                        have q129 : x20_3 < (x13_3.length : Int) := of_decide_eq_true (by first | (with_reducible assumption) | assumption)
                        obtain ⟨ad129, e129, hx129_0⟩ := Kd.at_int (Kd.R_reads' HO_13.out).2.2 x20_3 p129 q129
                        cases e129
                        replace p129 := eq_true p129
                        replace q129 := eq_true q129
                        have p48 : 0 ≤ (x20_3 : Int) := of_decide_eq_true (by first | (with_reducible assumption) | assumption)
                        have q48 : (x20_3 : Int) < ((x13_3.length : Int) : Int) := of_decide_eq_true (by first | (with_reducible assumption) | assumption)
                        obtain ⟨go48, co48, eo48, gb48, gl48, cl48, HG48⟩ := Kd.R_form HO_13.out (by omega)
                        (first | cases eo48 | (injection eo48 with ea_ en_ ec_; (first | subst ea_ | (injection ea_ with ea_; subst ea_)); subst ec_; clear en_))
                        have GB48 := Aside0.mk gb48
                        have GG48 := Aside0.mk HG48
                        clear gb48 gl48 HG48
                        (first | simp only [add_plain] at hx129_0 | skip)
                        obtain ⟨hx48_0, hf48_0⟩ := Kd.R_celln 0 HO_13.out (x20_3 : Int) p48 q48
                        replace p48 := eq_true p48
                        replace q48 := eq_true q48
                        have HP50 := Kd.R_putg HO_13.out (x20_3 : Int) (((rd x13_3 x20_3) + 1) % 256)
                        go_wp2_with (first | ((with_reducible refine gate_store (t := 5) (p := 83) rfl ?_); refine store_event (t := 5) (p := 83) (v := ?vo_w51) (w1 := (wr.setCell ⟨go48, (x20_3 : Int).toNat, none⟩ (.int .u8 (((rd x13_3 x20_3) + 1) % 256)))) ?hg ?ho ?hn ?hr ?_; (case ho => rfl); (case hg => rfl); (case hn => rfl); (case hr => first | (go_simp; done) | (go_simp; rfl)); intro w51 hw; have hg : wr.grownBy w51 (some go48) := (by rw [hw]; exact HP50.2); have hp_ : Kd.R (Kd.int .u8) 5 w51 w.heap.size (fun k_ => some k_ ≠ (.slice Ao22 y105.length co22 : Value).ownBlock ∧ some k_ ≠ (.slice Ao23 y111.length co23 : Value).ownBlock) (.slice (some ⟨go48, 0, none⟩) x13_3.length co49) y130 := (by rw [hw, Ny130.out]; exact HP50.1); clear HP50; have n0_ := Aside0.mk (Kd.R_after (v := (.slice (some ⟨go48, 0, none⟩) x13_3.length co49)) (v1 := (.slice (some ⟨go48, 0, none⟩) x13_3.length co49)) (ok := (fun k_ => some k_ ≠ (.slice Ao23 y111.length co23 : Value).ownBlock)) (by (with_reducible repeat (first | apply Kd.R_alloc | apply Kd.R_drewN | apply Kd.R_drew)); exact HO_11.out) hg (.inl rfl)); have n1_ := Aside0.mk (Kd.R_after (v := (.slice (some ⟨go48, 0, none⟩) x13_3.length co49)) (v1 := (.slice (some ⟨go48, 0, none⟩) x13_3.length co49)) (ok := (fun k_ => some k_ ≠ (.slice Ao22 y105.length co22 : Value).ownBlock)) (by (with_reducible repeat (first | apply Kd.R_alloc | apply Kd.R_drewN | apply Kd.R_drew)); exact HO_12.out) hg (.inl rfl)); have n2_ := Aside0.mk (hp_); have n3_ := Aside0.mk (blk_grown (g := gb101) (o := .cells #[.int .i64 a0_0, .int .i64 a0_1, .int .i64 a0_2, .int .i64 a0_3, .int .i64 a0_4, .int .i64 a0_5] 23 (0, 0)) (by (with_reducible repeat (first | refine blk_drewN ?_ _ | refine blk_drew ?_ | refine blk_alloc ?_ _)); exact BK101.out) hg (Kd.R_ne HO_13.out BK101.out (by decide))); have n4_ := Aside0.mk ((by rw [hw]; exact below_set (HB.out) GB48.out : Below w.heap.size w w51)); clear HO_11; clear HO_12; clear HO_13; clear BK101; clear HB; have HO_11 := n0_; have HO_12 := n1_; have HO_13 := n2_; have BK101 := n3_; have HB := n4_; clear n0_ n1_ n2_ n3_ n4_; clear hg hw hp_))
                        go_roundg k3
                        case measure => have := HJ5.out; have := HJ13.out; have := HK3.out; omega
                        case rel => exact ⟨(y130), (wrap64 (x20_3 + 1)), (by first | rfl | (simp; done) | (simp [*]; done)), H', ⟨by have := HJ5.out; have := HJ13.out; have := HK3.out; omega⟩, ⟨by (with_reducible repeat (first | apply Kd.R_alloc | apply Kd.R_drewN | apply Kd.R_drew)); exact HO_11.out⟩, ⟨by (with_reducible repeat (first | apply Kd.R_alloc | apply Kd.R_drewN | apply Kd.R_drew)); exact HO_12.out⟩, ⟨by (with_reducible repeat (first | apply Kd.R_alloc | apply Kd.R_drewN | apply Kd.R_drew)); exact HO_13.out⟩, ⟨by (with_reducible repeat (first | refine blk_drewN ?_ _ | refine blk_drew ?_ | refine blk_alloc ?_ _)); exact BK101.out⟩, ⟨by repeat (first | (with_reducible first | exact HB.out | apply below_alloc | apply pw_below_drewN | apply below_drew1 | refine below_set ?_ GE101.out) | exact HB.out)⟩⟩
                      · rw [if_neg c47] at H
                        exact absurd H (by simp)
                    · rw [if_neg c46] at H
                      have c46b0 : decide (x20_3 < (x13_3.length : Int)) = false := decide_eq_false c46
                      clear c46
                      by_cases c52 : x19_13 = true
                      · subst c52
                        have H1 : (if (strOfNums y105).toList = (strOfNums l2).toList then (some ((strOfNums y111).toList == (strOfNums l3).toList)) else (some false)) = some r := by rw [if_pos rfl] at H; exact H
                        clear H
                        have H := H1
                        clear H1
                        by_cases c53 : (strOfNums y105).toList = (strOfNums l2).toList
                        · rw [if_pos c53] at H
                          have c53b0 : ((strOfNums y105).toList == (strOfNums l2).toList) = true := beq_iff_eq.mpr c53
                          have c53b1 : ((strOfNums y105).toList != (strOfNums l2).toList) = false := bne_eq_false_iff_eq.mpr c53
                          clear c53
                          obtain rfl := Option.some.inj H
                          obtain ⟨Ao54, co54, eo54⟩ := Kd.R_slice HO_13.out
                          subst eo54
                          have hcv55 := own_string (P := Try.prog) Try.underlying24 Try.underlying5 Try.underlying9 (Kd.own_of_R HO_11.out)
                          have hcv56 := fun m_ : Nat => own_string (P := Try.prog) Try.underlying24 Try.underlying5 Try.underlying9 (Kd.own_of_R (Kd.R_drewN HO_11.out m_))
                          have hcv57 := Kd.C_string (P := Try.prog) (A := A2) (c := c2) Try.underlying24 Try.underlying5 Try.underlying9 (Kd.C_below HR2.out HB.out)
                          have hcv58 := fun m_ : Nat => Kd.C_string (P := Try.prog) (A := A2) (c := c2) Try.underlying24 Try.underlying5 Try.underlying9 (Kd.C_drewN (Kd.C_below HR2.out HB.out) m_)
                          have hcv59 := own_string (P := Try.prog) Try.underlying24 Try.underlying5 Try.underlying9 (Kd.own_of_R HO_12.out)
                          have hcv60 := fun m_ : Nat => own_string (P := Try.prog) Try.underlying24 Try.underlying5 Try.underlying9 (Kd.own_of_R (Kd.R_drewN HO_12.out m_))
                          have hcv61 := Kd.C_string (P := Try.prog) (A := A3) (c := c3) Try.underlying24 Try.underlying5 Try.underlying9 (Kd.C_below HR3.out HB.out)
                          have hcv62 := fun m_ : Nat => Kd.C_string (P := Try.prog) (A := A3) (c := c3) Try.underlying24 Try.underlying5 Try.underlying9 (Kd.C_drewN (Kd.C_below HR3.out HB.out) m_)
                          go_wp2
                          go_ret
                          exact ⟨by first | rfl | (simp [errW_none, errW_some] <;> rfl) | (simp [*, errW_none, errW_some] <;> rfl), by repeat (first | (with_reducible first | exact HB.out | apply below_alloc | apply pw_below_drewN | apply below_drew1 | refine below_set ?_ GE101.out) | exact HB.out)⟩
                        · rw [if_neg c53] at H
                          have c53b0 : ((strOfNums y105).toList == (strOfNums l2).toList) = false := beq_eq_false_iff_ne.mpr c53
                          have c53b1 : ((strOfNums y105).toList != (strOfNums l2).toList) = true := bne_iff_ne.mpr c53
                          obtain rfl := Option.some.inj H
                          obtain ⟨Ao63, co63, eo63⟩ := Kd.R_slice HO_13.out
                          subst eo63
                          have hcv64 := own_string (P := Try.prog) Try.underlying24 Try.underlying5 Try.underlying9 (Kd.own_of_R HO_11.out)
                          have hcv65 := fun m_ : Nat => own_string (P := Try.prog) Try.underlying24 Try.underlying5 Try.underlying9 (Kd.own_of_R (Kd.R_drewN HO_11.out m_))
                          have hcv66 := Kd.C_string (P := Try.prog) (A := A2) (c := c2) Try.underlying24 Try.underlying5 Try.underlying9 (Kd.C_below HR2.out HB.out)
                          have hcv67 := fun m_ : Nat => Kd.C_string (P := Try.prog) (A := A2) (c := c2) Try.underlying24 Try.underlying5 Try.underlying9 (Kd.C_drewN (Kd.C_below HR2.out HB.out) m_)
                          go_wp2
                          go_ret
                          exact ⟨by first | rfl | (simp [errW_none, errW_some] <;> rfl) | (simp [*, errW_none, errW_some] <;> rfl), by repeat (first | (with_reducible first | exact HB.out | apply below_alloc | apply pw_below_drewN | apply below_drew1 | refine below_set ?_ GE101.out) | exact HB.out)⟩
                      · replace c52 := Bool.eq_false_iff.mpr c52
                        subst c52
                        have H1 : (some false) = some r := by rw [if_neg (show ¬ (false = true) by decide)] at H; exact H
                        clear H
                        have H := H1
                        clear H1
                        obtain rfl := Option.some.inj H
                        obtain ⟨Ao68, co68, eo68⟩ := Kd.R_slice HO_13.out
                        subst eo68
                        go_wp2
                        go_ret
                        exact ⟨by first | rfl | (simp [errW_none, errW_some] <;> rfl) | (simp [*, errW_none, errW_some] <;> rfl), by repeat (first | (with_reducible first | exact HB.out | apply below_alloc | apply pw_below_drewN | apply below_drew1 | refine below_set ?_ GE101.out) | exact HB.out)⟩
          · rw [if_neg c11] at H
            exact absurd H (by simp)
        · rw [if_neg c10] at H
          exact absurd H (by simp)
end Go.Proofs.Ytpbnppeodoflcaa.PDiffMarks
end
section
namespace Go.Proofs.Ytpbnppeodoflcaa.PDiffMarks
open Go.RowKit Go.Proofs.Ytpbnppeodoflcaa.PDf Go.Proofs.Ytpbnppeodoflcaa.PureD Go.Proofs.Ytpbnppeodoflcaa.Pure Go.Proofs.Ytpbnppeodoflcaa.E Go.Proofs.YtpbnppeodoflcaaW.PrintWords Go.Proofs.YtpbnppeodoflcaaW.PrintLast Go.Proofs.YtpbnppeodoflcaaW.PrintMore
set_option linter.unusedVariables false
set_option linter.unusedSimpArgs false
theorem raise_loop (x2 x3 : List Int) (d : Nat) : ∀ (k i : Nat) (r : List Int), r.length ≤ 1000 → i + d = r.length → d < k → catamaranlaw14_DiffMarks.l0 k x2 x3 x2 x3 r true (i : Int) = some true := by
  induction d with
  | zero =>
    intro k i r hr hi hk
    obtain ⟨k, rfl⟩ : ∃ m, k = m + 1 := ⟨k - 1, by omega⟩
    show (if (i : Int) < (r.length : Int) then _ else _) = _
    rw [if_neg (by omega), if_pos rfl, if_pos rfl, beq_self_eq_true]
  | succ d ih =>
    intro k i r hr hi hk
    obtain ⟨k, rfl⟩ : ∃ m, k = m + 1 := ⟨k - 1, by omega⟩
    show (if (i : Int) < (r.length : Int) then _ else _) = _
    rw [if_pos (by omega), if_pos (by omega), wrap64_id (x := (i : Int) + 1) (by omega) (by omega), show ((i : Int) + 1) = ((i + 1 : Nat) : Int) from by omega]
    exact ih k (i + 1) _ (by rw [List.length_set]; omega) (by rw [List.length_set]; omega) (by omega)
theorem j0_of (k : Nat) (x1 : Int) (x2 x3 : List Int) (x4 : Int) (c0 c1 c2 c3 c4 c5 : Int) (R : List Int × List Act_ × Int) (g1 : x2.length ≤ 100) (g2 : x3.length ≤ 100) (hm : diff_Mark.f c0 c1 c2 c3 c4 c5 x1 x2 x3 x4 = some R) (hr : catamaranref14_Mark.f k c0 c1 c2 c3 c4 c5 x1 x2 x3 x4 = some R) (hs : catamaranref12_SameActs.f k R.2.1 R.2.1 = some true) (hl : catamaranlaw14_DiffMarks.j1 k x2 x3 x2 x3 R.1 true = some true) :
    catamaranlaw14_DiffMarks.j0 (k + 1) x1 x2 x3 x4 false c0 c1 c2 c3 c4 c5 = some true := by
  show (if false = true then some true else ((some (([] : List Int) : List Int)).bind fun y102 => (if y102.length + x2.length < 140737488355328 then ((some (y102 ++ x2 : List Int)).bind fun y105 => ((some (([] : List Int) : List Int)).bind fun y108 => (if y108.length + x3.length < 140737488355328 then ((some (y108 ++ x3 : List Int)).bind fun y111 => ((diff_Mark.f c0 c1 c2 c3 c4 c5 x1 y105 y111 x4).bind fun bt114 => ((catamaranref14_Mark.f k c0 c1 c2 c3 c4 c5 x1 x2 x3 x4).bind fun bt121 => (if (strOfNums bt114.1).toList = (strOfNums bt121.1).toList then ((catamaranref12_SameActs.f k bt114.2.1 bt121.2.1).bind fun t128 => (if t128 = true then (catamaranlaw14_DiffMarks.j1 k x2 x3 y105 y111 bt114.1 (bt114.2.2 == bt121.2.2)) else (catamaranlaw14_DiffMarks.j1 k x2 x3 y105 y111 bt114.1 false))) else (catamaranlaw14_DiffMarks.j1 k x2 x3 y105 y111 bt114.1 false))))) else (none)))) else (none)))) = some true
  rw [if_neg (by simp), Option.bind_some, if_pos (by simp; omega), Option.bind_some, Option.bind_some, if_pos (by simp; omega), Option.bind_some, List.nil_append, List.nil_append, hm, Option.bind_some, hr, Option.bind_some, if_pos rfl, hs, Option.bind_some, if_pos rfl, beq_self_eq_true]
  exact hl
theorem j1_of (k : Nat) (x2 x3 r : List Int) (h : catamaranlaw14_DiffMarks.l0 k x2 x3 x2 x3 r true 0 = some true) : catamaranlaw14_DiffMarks.j1 (k + 1) x2 x3 x2 x3 r true = some true := h
theorem holds (c0 c1 c2 c3 c4 c5 a1 : Int) (l2 l3 : List Int) (a4 : Int) (h0 : (Lit.int .i64 c0).wf = true) (ha : okB l2 = true) (hb : okB l3 = true) : catamaranlaw14_DiffMarks.f 1000 c0 c1 c2 c3 c4 c5 a1 l2 l3 a4 = some true := by
  have hj : ∀ b : Bool, (b = false → l2.length ≤ 100 ∧ l3.length ≤ 100) → catamaranlaw14_DiffMarks.j0 1000 a1 l2 l3 a4 b c0 c1 c2 c3 c4 c5 = some true := fun b hb' => by
    cases b with
    | true => rfl
    | false =>
      obtain ⟨g1, g2⟩ := hb' rfl
      obtain ⟨n1, n2⟩ := markR_len c0 c1 c2 c3 c4 c5 a1 a4 l2 l3 g1
      have hm := mark_own c0 c1 c2 c3 c4 c5 a1 a4 l2 l3 h0 ha hb
      exact j0_of 999 a1 l2 l3 a4 c0 c1 c2 c3 c4 c5 _ g1 g2 hm (mark_ref c0 c1 c2 c3 c4 c5 a1 a4 l2 l3 h0 ha hb 939) (same_self _ n2 799) (j1_of 998 l2 l3 _ (raise_loop l2 l3 _ 998 0 _ (by omega) (Nat.zero_add _) (by omega)))
  unfold catamaranlaw14_DiffMarks.f
  by_cases h : (l2.length : Int) > 100
  · rw [if_pos h]
    exact hj true (by simp)
  · rw [if_neg h]
    exact hj _ (fun e => ⟨by omega, by have := of_decide_eq_false e; omega⟩)
end Go.Proofs.Ytpbnppeodoflcaa.PDiffMarks
end
section
namespace Go.Proofs.Ytpbnppeodoflcaa.E
open Go.ChangeShapes Go.WideShapes Go.ChangeAt Go.RowKit
set_option linter.unusedVariables false
set_option maxRecDepth 100000 in
set_option linter.constructorNameAsVariable false in
theorem open_cfg {H : Type} {enc : TypeId × Value → H} {W : World} {base : Nat} {sp : Nat → Bool} {held : Bool} {r : Reach} {b0 : Nat} {v : Value} {d : DataW H} {ps : List MemPlace}
    (hv : Value.okWide Try.prog W r b0 23 v) (h : DataW.Trod enc Try.prog W base sp held 23 v d ps) :
    ∃ c0 c1 c2 c3 c4 c5 : Int, v = .agg #[.int .i64 c0, .int .i64 c1, .int .i64 c2, .int .i64 c3, .int .i64 c4, .int .i64 c5] ∧ (Lit.int .i64 c0).wf = true ∧ (Lit.int .i64 c1).wf = true ∧ (Lit.int .i64 c2).wf = true ∧ (Lit.int .i64 c3).wf = true ∧ (Lit.int .i64 c4).wf = true ∧ (Lit.int .i64 c5).wf = true := by
  obtain ⟨cs, rfl, hsz⟩ := okWide_struct Try.underlying23 hv
  obtain ⟨fuel, hf⟩ := h
  obtain ⟨xs, n, _, _, hl, hlen, hfs⟩ := DataW.trod_struct Try.underlying23 hf
  have hcells : Try.prog.cellsOf 23 = 6 := by kernel_rfl
  have hone : Try.prog.cellsOf 3 = 1 := by kernel_rfl
  rw [hcells] at hl
  simp only [Value.cells] at hl hfs
  obtain ⟨l⟩ := cs
  simp only [] at hl hfs
  match l, hl with
  | [v0, v1, v2, v3, v4, v5], _ =>
    match xs, hlen with
    | [y0, y1, y2, y3, y4, y5], _ =>
      obtain ⟨c0, h0, _, w0⟩ := DataW.trod_int Try.underlying3 (by have := hfs 0 _ rfl; simpa [hone] using this)
      obtain ⟨c1, h1, _, w1⟩ := DataW.trod_int Try.underlying3 (by have := hfs 1 _ rfl; simpa [hone] using this)
      obtain ⟨c2, h2, _, w2⟩ := DataW.trod_int Try.underlying3 (by have := hfs 2 _ rfl; simpa [hone] using this)
      obtain ⟨c3, h3, _, w3⟩ := DataW.trod_int Try.underlying3 (by have := hfs 3 _ rfl; simpa [hone] using this)
      obtain ⟨c4, h4, _, w4⟩ := DataW.trod_int Try.underlying3 (by have := hfs 4 _ rfl; simpa [hone] using this)
      obtain ⟨c5, h5, _, w5⟩ := DataW.trod_int Try.underlying3 (by have := hfs 5 _ rfl; simpa [hone] using this)
      simp only [List.cons.injEq, and_true] at h0 h1 h2 h3 h4 h5
      subst h0 h1 h2 h3 h4 h5
      exact ⟨c0, c1, c2, c3, c4, c5, rfl, w0, w1, w2, w3, w4, w5⟩
end Go.Proofs.Ytpbnppeodoflcaa.E
end

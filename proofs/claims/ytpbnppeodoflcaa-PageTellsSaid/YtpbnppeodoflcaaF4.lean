/- place.find at pages, place.Page. -/
import Derived.Test.YtpbnppeodoflcaaF3
namespace Go.Proofs.Ytpbnppeodoflcaa.E
open Go.RowKit Go.Proofs.YtpbnppeodoflcaaW.PrintWords Go.Proofs.YtpbnppeodoflcaaW.PrintLast Go.Proofs.YtpbnppeodoflcaaW.PrintMore Go.Proofs.Ytpbnppeodoflcaa.K
set_option linter.unusedVariables false
set_option linter.unusedSimpArgs false

def bndP (c0 c1 a1 a2 : Int) : List (Int × Int × Int) := [(a1, 0, wrap64 (c0 - 1)), (a2, 0, wrap64 (pgsS c1 - 1))]
/-- Where a page stands, or the error. -/
def pageS (c0 c1 c2 c3 c4 c5 a1 a2 : Int) : Int × Int :=
  if cfgS c0 c1 c2 c3 c4 c5 = 0 then (if (bndP c0 c1 a1 a2).all bndB = true then (wrap64 (wrap64 (wrap64 (wrap64 (wrap64 1 * 2)) + wrap64 (wrap64 (2 * c2))) + wrap64 (wrap64 (wrap64 (a1 * pgsS c1) + a2))), 0) else (0, 2)) else (0, cfgS c0 c1 c2 c3 c4 c5)
theorem below_lit2 {w w1 w2 : World} {o : Obj} (h : Below w.heap.size w w1) (k : Below (w1.alloc o).heap.size (w1.alloc o) w2) : Below w.heap.size w w2 := below_then (below_alloc h o) (below_alloc h o).size k
theorem part_at (c0 c1 c2 p : Int) (W : World) :
    (Instr.index 268 (.agg #[.int .u8 1, .int .i64 1, .int .i64 1, .int .i64 2, .int .u8 2, .int .i64 2, .int .i64 c2, .int .i64 1, .int .u8 3, .int .i64 c0, .int .i64 p, .int .i64 1, .int .u8 4, .int .i64 c0, .int .i64 c1, .int .i64 4]) (.int .i64 0)).run Try.prog W = .ok (.agg #[.int .u8 1, .int .i64 1, .int .i64 1, .int .i64 2]) W ∧
    (Instr.index 268 (.agg #[.int .u8 1, .int .i64 1, .int .i64 1, .int .i64 2, .int .u8 2, .int .i64 2, .int .i64 c2, .int .i64 1, .int .u8 3, .int .i64 c0, .int .i64 p, .int .i64 1, .int .u8 4, .int .i64 c0, .int .i64 c1, .int .i64 4]) (.int .i64 1)).run Try.prog W = .ok (.agg #[.int .u8 2, .int .i64 2, .int .i64 c2, .int .i64 1]) W ∧
    (Instr.index 268 (.agg #[.int .u8 1, .int .i64 1, .int .i64 1, .int .i64 2, .int .u8 2, .int .i64 2, .int .i64 c2, .int .i64 1, .int .u8 3, .int .i64 c0, .int .i64 p, .int .i64 1, .int .u8 4, .int .i64 c0, .int .i64 c1, .int .i64 4]) (.int .i64 2)).run Try.prog W = .ok (.agg #[.int .u8 3, .int .i64 c0, .int .i64 p, .int .i64 1]) W := ⟨by kernel_rfl, by kernel_rfl, by kernel_rfl⟩
set_option maxHeartbeats 8000000 in
set_option maxRecDepth 100000 in
theorem find_page (c0 c1 c2 c3 c4 c5 a1 a2 : Int) (w : World) :
    Calls Try.prog 184 #[.agg #[.int .i64 c0, .int .i64 c1, .int .i64 c2, .int .i64 c3, .int .i64 c4, .int .i64 c5], .int .u8 3, .int .i64 a1, .int .i64 a2] w fun e w' => e = .returned (.tuple #[.int .i64 (pageS c0 c1 c2 c3 c4 c5 a1 a2).1, .int .i64 (pageS c0 c1 c2 c3 c4 c5 a1 a2).2]) ∧ Below w.heap.size w w' := by
  have HB1 := Aside0.mk ((Below.refl w.heap.size w).alloc (Nat.le_refl _) (.cells #[.int .i64 c0, .int .i64 c1, .int .i64 c2, .int .i64 c3, .int .i64 c4, .int .i64 c5] 23))
  have HG := Aside0.mk (heap_alloc_new w (.cells #[.int .i64 c0, .int .i64 c1, .int .i64 c2, .int .i64 c3, .int .i64 c4, .int .i64 c5] 23))
  unfold pageS
  by_cases h1 : cfgS c0 c1 c2 c3 c4 c5 = 0
  · rw [if_pos h1]
    cases h2 : (bndP c0 c1 a1 a2).all bndB with
    | true =>
      rw [if_pos rfl]
      go_enter Try.func184, Try.ntmps184
      go_wp2_with (first | (go_at_call 120; refine (place_Check.calls c0 c1 c2 c3 c4 c5 0 _ (by rw [← h1]; rfl)).mono ?_; rintro e w1 ⟨rfl, hb⟩; (have HB := Aside0.mk (below_then HB1.out HB1.out.size hb)); (have hg1 := blk_below HG.out hb); (have k0 := (blk_cell hg1 0).trans rfl); (have k1 := (blk_cell hg1 1).trans rfl); (have k2 := (blk_cell hg1 2).trans rfl); (have k3 := (blk_cell hg1 3).trans rfl); (have k4 := (blk_cell hg1 4).trans rfl); (have k5 := (blk_cell hg1 5).trans rfl); clear hb) | (go_at_call 193; refine (parts_any c0 c1 c2 c3 c4 c5 _).mono ?_; rintro e w2 ⟨rfl, hb⟩; (have HB2 := Aside0.mk (below_then HB.out HB.out.size hb)); clear hb; unfold partsV))
      have hi0 := fun W => (part_at c0 c1 c2 (pgsS c1) W).1
      have hi1 := fun W => (part_at c0 c1 c2 (pgsS c1) W).2.1
      have hi2 := fun W => (part_at c0 c1 c2 (pgsS c1) W).2.2
      refine wp_loop_rounds 3 ?_
      rw [rounds_succ]
      go_wp2_with (first | (go_at_call 194; refine (size_any 1 1 1 2 _).mono ?_; rintro e w3 ⟨rfl, hb⟩; (have HB3 := Aside0.mk (below_lit2 HB2.out hb)); clear hb))
      rw [rounds_succ]
      go_wp2_with (first | (go_at_call 194; refine (size_any 2 2 c2 1 _).mono ?_; rintro e w4 ⟨rfl, hb⟩; (have HB4 := Aside0.mk (below_lit2 HB3.out hb)); clear hb))
      rw [rounds_succ]
      have HG4 := Aside0.mk (heap_alloc_new (w4.alloc (.cells #[.int .u8 3, .int .i64 c0, .int .i64 (pgsS c1), .int .i64 1] 267)) (.cells (((bndP c0 c1 a1 a2).flatMap fun b => [Value.int .i64 b.1, .int .i64 b.2.1, .int .i64 b.2.2]).toArray) 242))
      rw [World.size_alloc] at HG4
      have HZ : Aside0 (w4.heap.size + 1 < ((w4.alloc (.cells #[.int .u8 3, .int .i64 c0, .int .i64 (pgsS c1), .int .i64 1] 267)).alloc (.cells (((bndP c0 c1 a1 a2).flatMap fun b => [Value.int .i64 b.1, .int .i64 b.2.1, .int .i64 b.2.2]).toArray) 242)).heap.size) := ⟨by rw [World.size_alloc, World.size_alloc]; omega⟩
      have HB5 := Aside0.mk (below_alloc (below_alloc HB4.out (.cells #[.int .u8 3, .int .i64 c0, .int .i64 (pgsS c1), .int .i64 1] 267)) (.cells (((bndP c0 c1 a1 a2).flatMap fun b => [Value.int .i64 b.1, .int .i64 b.2.1, .int .i64 b.2.2]).toArray) 242))
      have HP5 := Aside0.mk (blk_alloc (heap_alloc_new w4 (.cells #[.int .u8 3, .int .i64 c0, .int .i64 (pgsS c1), .int .i64 1] 267)) (.cells (((bndP c0 c1 a1 a2).flatMap fun b => [Value.int .i64 b.1, .int .i64 b.2.1, .int .i64 b.2.2]).toArray) 242))
      go_wp2_with (first | (go_at_call 171; refine (within_any (bndP c0 c1 a1 a2) (w4.heap.size + 1) 2 _ HZ.out (by simp [bndP]) (by simp [bndP]) (cells_flat _ _ _ _ HG4.out)).mono ?_; rw [h2]; rintro e w5 ⟨rfl, hb⟩; (have HB6 := Aside0.mk (below_then HB5.out HB5.out.size hb)); (have hg5 := blk_below HP5.out hb); (have m0 := (blk_cell hg5 0).trans rfl); (have m1 := (blk_cell hg5 1).trans rfl); (have m2 := (blk_cell hg5 2).trans rfl); (have m3 := (blk_cell hg5 3).trans rfl); clear hb hg5))
      go_ret2
      exact ⟨rfl, HB6.out⟩
    | false =>
      rw [if_neg (by decide)]
      go_enter Try.func184, Try.ntmps184
      go_wp2_with (first | (go_at_call 120; refine (place_Check.calls c0 c1 c2 c3 c4 c5 0 _ (by rw [← h1]; rfl)).mono ?_; rintro e w1 ⟨rfl, hb⟩; (have HB := Aside0.mk (below_then HB1.out HB1.out.size hb)); (have hg1 := blk_below HG.out hb); (have k0 := (blk_cell hg1 0).trans rfl); (have k1 := (blk_cell hg1 1).trans rfl); (have k2 := (blk_cell hg1 2).trans rfl); (have k3 := (blk_cell hg1 3).trans rfl); (have k4 := (blk_cell hg1 4).trans rfl); (have k5 := (blk_cell hg1 5).trans rfl); clear hb) | (go_at_call 193; refine (parts_any c0 c1 c2 c3 c4 c5 _).mono ?_; rintro e w2 ⟨rfl, hb⟩; (have HB2 := Aside0.mk (below_then HB.out HB.out.size hb)); clear hb; unfold partsV))
      have hi0 := fun W => (part_at c0 c1 c2 (pgsS c1) W).1
      have hi1 := fun W => (part_at c0 c1 c2 (pgsS c1) W).2.1
      have hi2 := fun W => (part_at c0 c1 c2 (pgsS c1) W).2.2
      refine wp_loop_rounds 3 ?_
      rw [rounds_succ]
      go_wp2_with (first | (go_at_call 194; refine (size_any 1 1 1 2 _).mono ?_; rintro e w3 ⟨rfl, hb⟩; (have HB3 := Aside0.mk (below_lit2 HB2.out hb)); clear hb))
      rw [rounds_succ]
      go_wp2_with (first | (go_at_call 194; refine (size_any 2 2 c2 1 _).mono ?_; rintro e w4 ⟨rfl, hb⟩; (have HB4 := Aside0.mk (below_lit2 HB3.out hb)); clear hb))
      rw [rounds_succ]
      have HG4 := Aside0.mk (heap_alloc_new (w4.alloc (.cells #[.int .u8 3, .int .i64 c0, .int .i64 (pgsS c1), .int .i64 1] 267)) (.cells (((bndP c0 c1 a1 a2).flatMap fun b => [Value.int .i64 b.1, .int .i64 b.2.1, .int .i64 b.2.2]).toArray) 242))
      rw [World.size_alloc] at HG4
      have HZ : Aside0 (w4.heap.size + 1 < ((w4.alloc (.cells #[.int .u8 3, .int .i64 c0, .int .i64 (pgsS c1), .int .i64 1] 267)).alloc (.cells (((bndP c0 c1 a1 a2).flatMap fun b => [Value.int .i64 b.1, .int .i64 b.2.1, .int .i64 b.2.2]).toArray) 242)).heap.size) := ⟨by rw [World.size_alloc, World.size_alloc]; omega⟩
      have HB5 := Aside0.mk (below_alloc (below_alloc HB4.out (.cells #[.int .u8 3, .int .i64 c0, .int .i64 (pgsS c1), .int .i64 1] 267)) (.cells (((bndP c0 c1 a1 a2).flatMap fun b => [Value.int .i64 b.1, .int .i64 b.2.1, .int .i64 b.2.2]).toArray) 242))
      have HP5 := Aside0.mk (blk_alloc (heap_alloc_new w4 (.cells #[.int .u8 3, .int .i64 c0, .int .i64 (pgsS c1), .int .i64 1] 267)) (.cells (((bndP c0 c1 a1 a2).flatMap fun b => [Value.int .i64 b.1, .int .i64 b.2.1, .int .i64 b.2.2]).toArray) 242))
      go_wp2_with (first | (go_at_call 171; refine (within_any (bndP c0 c1 a1 a2) (w4.heap.size + 1) 2 _ HZ.out (by simp [bndP]) (by simp [bndP]) (cells_flat _ _ _ _ HG4.out)).mono ?_; rw [h2]; rintro e w5 ⟨rfl, hb⟩; (have HB6 := Aside0.mk (below_then HB5.out HB5.out.size hb)); (have hg5 := blk_below HP5.out hb); (have m0 := (blk_cell hg5 0).trans rfl); (have m1 := (blk_cell hg5 1).trans rfl); (have m2 := (blk_cell hg5 2).trans rfl); (have m3 := (blk_cell hg5 3).trans rfl); clear hb hg5))
      go_ret2
      exact ⟨rfl, HB6.out⟩
  · rw [if_neg h1]
    have d1 : (cfgS c0 c1 c2 c3 c4 c5 != 0) = true := by simpa using h1
    clear h1
    go_enter Try.func184, Try.ntmps184
    go_wp2_with (first | (go_at_call 120; refine (place_Check.calls c0 c1 c2 c3 c4 c5 _ _ rfl).mono ?_; rintro e w1 ⟨rfl, hb⟩; (have HB := Aside0.mk (below_then HB1.out HB1.out.size hb)); clear hb))
    go_ret2
    exact ⟨rfl, HB.out⟩
def place_Page.f (a0_0 a0_1 a0_2 a0_3 a0_4 a0_5 a1 a2 : Int) : Option (Int × Int) := some (pageS a0_0 a0_1 a0_2 a0_3 a0_4 a0_5 a1 a2)
set_option maxHeartbeats 8000000 in
set_option maxRecDepth 100000 in
theorem place_Page.calls (a0_0 : Int) (a0_1 : Int) (a0_2 : Int) (a0_3 : Int) (a0_4 : Int) (a0_5 : Int) (a1 : Int) (a2 : Int) (r1 : Int) (r2 : Int) (w : World) (h : place_Page.f a0_0 a0_1 a0_2 a0_3 a0_4 a0_5 a1 a2 = some (r1, r2)) :
    Calls Try.prog 142 #[.agg #[.int .i64 a0_0, .int .i64 a0_1, .int .i64 a0_2, .int .i64 a0_3, .int .i64 a0_4, .int .i64 a0_5], .int .i64 a1, .int .i64 a2] w fun e w' => e = .returned (.tuple #[.int .i64 r1, .int .i64 r2]) ∧ Below w.heap.size w w' := by
  have h' := Option.some.inj h
  have e1 : (pageS a0_0 a0_1 a0_2 a0_3 a0_4 a0_5 a1 a2).1 = r1 := by rw [h']
  have e2 : (pageS a0_0 a0_1 a0_2 a0_3 a0_4 a0_5 a1 a2).2 = r2 := by rw [h']
  clear h h'
  have HB1 := Aside0.mk ((Below.refl w.heap.size w).alloc (Nat.le_refl _) (.cells #[.int .i64 a0_0, .int .i64 a0_1, .int .i64 a0_2, .int .i64 a0_3, .int .i64 a0_4, .int .i64 a0_5] 23))
  go_enter Try.func142, Try.ntmps142
  go_wp2_with (first | (go_at_call 184; refine (find_page a0_0 a0_1 a0_2 a0_3 a0_4 a0_5 a1 a2 _).mono ?_; rw [e1, e2]; rintro e w1 ⟨rfl, hb⟩; (have HB := Aside0.mk (below_then HB1.out HB1.out.size hb)); clear hb))
  go_ret2
  exact ⟨rfl, HB.out⟩
end Go.Proofs.Ytpbnppeodoflcaa.E

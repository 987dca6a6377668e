/- place.Check. -/
import Derived.Test.YtpbnppeodoflcaaF1
namespace Go.Proofs.Ytpbnppeodoflcaa.E
open Go.RowKit Go.Proofs.YtpbnppeodoflcaaW.PrintWords Go.Proofs.YtpbnppeodoflcaaW.PrintLast Go.Proofs.YtpbnppeodoflcaaW.PrintMore Go.Proofs.Ytpbnppeodoflcaa.K
set_option linter.unusedVariables false
set_option linter.unusedSimpArgs false

def bndC (c0 c1 c2 c3 c4 c5 : Int) : List (Int × Int × Int) := [(c0, 1, 3), (c1, 1, 16), (c2, 1, 32), (c3, 1, c0), (c4, 1, 4), (c5, 4, 64)]
/-- The error of a config. -/
def cfgS (c0 c1 c2 c3 c4 c5 : Int) : Int := if (bndC c0 c1 c2 c3 c4 c5).all bndB = true then (if c2 < wrap64 (c0 + 2) then 8 else 0) else 8
def place_Check.f (a0_0 a0_1 a0_2 a0_3 a0_4 a0_5 : Int) : Option Int := some (cfgS a0_0 a0_1 a0_2 a0_3 a0_4 a0_5)
theorem cells_flat (w : World) (g : Nat) (bs : List (Int × Int × Int)) (ty : TypeId) (h : w.heap[g]? = some (.cells ((bs.flatMap fun b => [Value.int .i64 b.1, .int .i64 b.2.1, .int .i64 b.2.2]).toArray) ty (0, 0))) :
    ∀ (i : Nat) (b : Int × Int × Int), bs[i]? = some b → w.cell? ⟨g, i * 3, none⟩ = some (.int .i64 b.1) ∧ w.cell? ⟨g, i * 3 + 1, none⟩ = some (.int .i64 b.2.1) ∧ w.cell? ⟨g, i * 3 + 2, none⟩ = some (.int .i64 b.2.2) := by
  intro i b hb
  have key : ∀ (bs : List (Int × Int × Int)) (i : Nat) (b : Int × Int × Int), bs[i]? = some b → ∀ k v, k < 3 → [Value.int .i64 b.1, .int .i64 b.2.1, .int .i64 b.2.2][k]? = some v → (bs.flatMap fun b => [Value.int .i64 b.1, .int .i64 b.2.1, .int .i64 b.2.2])[i * 3 + k]? = some v := by
    intro bs
    induction bs with
    | nil => intro i b hb; simp at hb
    | cons a bs ih =>
      intro i b hb k v hk hv
      rw [List.flatMap_cons]
      rcases i with _ | i
      · simp only [List.getElem?_cons_zero, Option.some.injEq] at hb
        subst hb
        rw [Nat.zero_mul, Nat.zero_add, List.getElem?_append_left (by simpa using hk)]
        exact hv
      · rw [List.getElem?_cons_succ] at hb
        rw [List.getElem?_append_right (by simp; omega)]
        have := ih i b hb k v hk hv
        rw [← this]
        congr 1
        simp
        omega
  refine ⟨?_, ?_, ?_⟩
  · refine (blk_cell h (i * 3)).trans ?_
    have := key bs i b hb 0 _ (by decide) rfl
    simpa using this
  · refine (blk_cell h (i * 3 + 1)).trans ?_
    have := key bs i b hb 1 _ (by decide) rfl
    simpa using this
  · refine (blk_cell h (i * 3 + 2)).trans ?_
    have := key bs i b hb 2 _ (by decide) rfl
    simpa using this
set_option maxHeartbeats 8000000 in
set_option maxRecDepth 100000 in
theorem place_Check.calls (a0_0 : Int) (a0_1 : Int) (a0_2 : Int) (a0_3 : Int) (a0_4 : Int) (a0_5 : Int) (r : Int) (w : World) (h : place_Check.f a0_0 a0_1 a0_2 a0_3 a0_4 a0_5 = some r) :
    Calls Try.prog 120 #[.agg #[.int .i64 a0_0, .int .i64 a0_1, .int .i64 a0_2, .int .i64 a0_3, .int .i64 a0_4, .int .i64 a0_5]] w fun e w' => e = .returned (.int .i64 r) ∧ Below w.heap.size w w' := by
  obtain rfl := Option.some.inj h
  clear h
  unfold cfgS
  have HB1 := Aside0.mk ((Below.refl w.heap.size w).alloc (Nat.le_refl _) (.cells #[.int .i64 a0_0, .int .i64 a0_1, .int .i64 a0_2, .int .i64 a0_3, .int .i64 a0_4, .int .i64 a0_5] 23))
  have HG := Aside0.mk (heap_alloc_new (w.alloc (.cells #[.int .i64 a0_0, .int .i64 a0_1, .int .i64 a0_2, .int .i64 a0_3, .int .i64 a0_4, .int .i64 a0_5] 23)) (.cells (((bndC a0_0 a0_1 a0_2 a0_3 a0_4 a0_5).flatMap fun b => [Value.int .i64 b.1, .int .i64 b.2.1, .int .i64 b.2.2]).toArray) 242))
  rw [World.size_alloc] at HG
  have HB2 := Aside0.mk (HB1.out.alloc HB1.out.size (.cells (((bndC a0_0 a0_1 a0_2 a0_3 a0_4 a0_5).flatMap fun b => [Value.int .i64 b.1, .int .i64 b.2.1, .int .i64 b.2.2]).toArray) 242))
  have HF : Aside0 (World.cell? (w.alloc (.cells #[.int .i64 a0_0, .int .i64 a0_1, .int .i64 a0_2, .int .i64 a0_3, .int .i64 a0_4, .int .i64 a0_5] 23)) ⟨w.heap.size, 0, none⟩ = some (.int .i64 a0_0) ∧ World.cell? (w.alloc (.cells #[.int .i64 a0_0, .int .i64 a0_1, .int .i64 a0_2, .int .i64 a0_3, .int .i64 a0_4, .int .i64 a0_5] 23)) ⟨w.heap.size, 2, none⟩ = some (.int .i64 a0_2)) := ⟨⟨(blk_cell (heap_alloc_new w _) 0).trans rfl, (blk_cell (heap_alloc_new w _) 2).trans rfl⟩⟩
  have HZ : Aside0 (w.heap.size + 1 < ((w.alloc (.cells #[.int .i64 a0_0, .int .i64 a0_1, .int .i64 a0_2, .int .i64 a0_3, .int .i64 a0_4, .int .i64 a0_5] 23)).alloc (.cells (((bndC a0_0 a0_1 a0_2 a0_3 a0_4 a0_5).flatMap fun b => [Value.int .i64 b.1, .int .i64 b.2.1, .int .i64 b.2.2]).toArray) 242)).heap.size) := ⟨by rw [World.size_alloc, World.size_alloc]; omega⟩
  cases h1 : (bndC a0_0 a0_1 a0_2 a0_3 a0_4 a0_5).all bndB with
  | true =>
    rw [if_pos rfl]
    by_cases h2 : a0_2 < wrap64 (a0_0 + 2)
    · rw [if_pos h2]
      have d2 : decide (a0_2 < wrap64 (a0_0 + 2)) = true := decide_eq_true h2
      go_enter Try.func120, Try.ntmps120
      go_wp2_with (first | (go_at_call 171; refine (within_any (bndC a0_0 a0_1 a0_2 a0_3 a0_4 a0_5) (w.heap.size + 1) 6 _ HZ.out (by simp [bndC]) (by simp [bndC]) (cells_flat _ _ _ _ HG.out)).mono ?_; rw [h1]; rintro e w1 ⟨rfl, hb⟩; (have HB := Aside0.mk (below_then HB2.out HB2.out.size hb)); (have hc2 := pw_cell_below hb (pw_cell_below (below_alloc (Below.refl _ _) _) HF.out.2)); (have hc0 := pw_cell_below hb (pw_cell_below (below_alloc (Below.refl _ _) _) HF.out.1)); clear hb))
      go_ret
      exact ⟨rfl, HB.out⟩
    · rw [if_neg h2]
      have d2 : decide (a0_2 < wrap64 (a0_0 + 2)) = false := decide_eq_false h2
      go_enter Try.func120, Try.ntmps120
      go_wp2_with (first | (go_at_call 171; refine (within_any (bndC a0_0 a0_1 a0_2 a0_3 a0_4 a0_5) (w.heap.size + 1) 6 _ HZ.out (by simp [bndC]) (by simp [bndC]) (cells_flat _ _ _ _ HG.out)).mono ?_; rw [h1]; rintro e w1 ⟨rfl, hb⟩; (have HB := Aside0.mk (below_then HB2.out HB2.out.size hb)); (have hc2 := pw_cell_below hb (pw_cell_below (below_alloc (Below.refl _ _) _) HF.out.2)); (have hc0 := pw_cell_below hb (pw_cell_below (below_alloc (Below.refl _ _) _) HF.out.1)); clear hb))
      go_ret
      exact ⟨rfl, HB.out⟩
  | false =>
    rw [if_neg (by decide)]
    go_enter Try.func120, Try.ntmps120
    go_wp2_with (first | (go_at_call 171; refine (within_any (bndC a0_0 a0_1 a0_2 a0_3 a0_4 a0_5) (w.heap.size + 1) 6 _ HZ.out (by simp [bndC]) (by simp [bndC]) (cells_flat _ _ _ _ HG.out)).mono ?_; rw [h1]; rintro e w1 ⟨rfl, hb⟩; (have HB := Aside0.mk (below_then HB2.out HB2.out.size hb)); (have hc2 := pw_cell_below hb (pw_cell_below (below_alloc (Below.refl _ _) _) HF.out.2)); (have hc0 := pw_cell_below hb (pw_cell_below (below_alloc (Below.refl _ _) _) HF.out.1)); clear hb))
    go_ret
    exact ⟨rfl, HB.out⟩
end Go.Proofs.Ytpbnppeodoflcaa.E

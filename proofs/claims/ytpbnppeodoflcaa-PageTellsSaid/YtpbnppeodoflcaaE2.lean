/- bits.All: the set of all of n tracks. -/
import Derived.Test.YtpbnppeodoflcaaK
namespace Go.Proofs.Ytpbnppeodoflcaa.E
open Go.RowKit Go.Proofs.YtpbnppeodoflcaaW.PrintWords Go.Proofs.YtpbnppeodoflcaaW.PrintLast Go.Proofs.YtpbnppeodoflcaaW.PrintMore Go.Proofs.Ytpbnppeodoflcaa.K
set_option linter.unusedVariables false
set_option linter.unusedSimpArgs false

set_option maxHeartbeats 800000 in
set_option maxRecDepth 100000 in
theorem mul_one (w : World) : Calls Try.prog 174 #[.int .u64 1, .int .u64 1] w fun e w' => e = .returned (.tuple #[.int .u64 0, .int .u64 1]) ∧ w = w' := by
  go_enter Try.func174, Try.ntmps174
  go_wp2
  go_ret2
  exact ⟨by kernel_rfl, rfl⟩
set_option maxHeartbeats 800000 in
set_option maxRecDepth 100000 in
theorem mul_two (w : World) : Calls Try.prog 174 #[.int .u64 1, .int .u64 2] w fun e w' => e = .returned (.tuple #[.int .u64 0, .int .u64 2]) ∧ w = w' := by
  go_enter Try.func174, Try.ntmps174
  go_wp2
  go_ret2
  exact ⟨by kernel_rfl, rfl⟩

/-- Block g of W holds just these bytes. -/
structure Blk (W : World) (g : Nat) (xs : List Int) : Prop where mk :: (out : W.heap[g]? = some (.cells ((xs.map (Value.int .u8)).toArray) 5 (0, 0)))
theorem add_none (a : Addr) : a.add 0 = a := by unfold Addr.add; simp
/-- A whole block of bytes that was made here is a row of one's own. -/
theorem row_of_block {W : World} {base g : Nat} (hb : base ≤ g) (xs : List Int) (hm : xs.length ≤ 9223372036854775807) (h : W.heap[g]? = some (.cells ((xs.map (Value.int .u8)).toArray) 5 (0, 0))) :
    Kd.R (Kd.int .u8) 5 W base (fun _ => True) (.slice (some ⟨g, 0, none⟩) xs.length xs.length) xs :=
  Kd.R_of_own ⟨by simp [encs], .inr ⟨g, xs.length, _, rfl, hb, h, Nat.le_refl _, hm, by simp, by rw [List.take_of_length_le (by simp)]; rfl⟩⟩ (fun _ _ => trivial)

set_option maxHeartbeats 800000 in
set_option maxRecDepth 100000 in
theorem repeat_one (ad : Addr) (w : World) (hc : w.cell? ad = some (.int .u8 255)) :
    Calls Try.prog 126 #[.slice (some ad) 1 1, .int .i64 1] w fun e w' => e = .returned (.slice (some ⟨w.heap.size, 0, none⟩) 1 1) ∧ Blk w' w.heap.size [255] ∧ Below w.heap.size w w' := by
  have hmk : ∀ W, (Instr.makeSlice 24 (.int .i64 1) (.int .i64 1)).run Try.prog W = .ok (.slice (some ⟨W.heap.size, 0, none⟩) 1 1) (W.alloc (.cells #[.int .u8 0] 5)) := fun _ => by kernel_rfl
  have HC := Aside0.mk (pw_cell_below ((Below.refl w.heap.size w).alloc (Nat.le_refl _) (.cells #[.int .u8 0] 5)) hc)
  have HP : Aside0 (∀ (j : Nat) (v : Value), ([.int .u8 255] : List Value)[j]? = some v → (w.alloc (.cells #[.int .u8 0] 5)).cell? (ad.add j) = some v) := ⟨fun j v hj => by
    rcases j with _ | j
    · simp at hj; subst hj; rw [add_none ad]; exact HC.out
    · simp at hj⟩
  have HB := Aside0.mk ((Below.refl w.heap.size w).alloc (Nat.le_refl _) (.cells #[.int .u8 0] 5))
  have HG := Aside0.mk (heap_alloc_new w (.cells #[.int .u8 0] 5))
  go_enter Try.func126, Try.ntmps126
  go_wp2_with (first | (go_at_call 174; refine (mul_one _).mono ?_; rintro e w' ⟨rfl, rfl⟩) | (refine wpList_copy_splice rfl (.tmp 31) (.tmp 32) 24 24 rfl 5 Try.underlying24 (by kernel_rfl) (some ⟨w.heap.size, 0, none⟩) (some ad) 1 1 1 1 rfl rfl w.heap.size 0 [.int .u8 0] 5 HG.out [.int .u8 255] rfl (fun _ => ⟨rfl, ad, rfl, HP.out⟩) (by decide) (by simp [Value.oneCell']) w.heap.size w HB.out (Nat.le_refl _) ?_; intro w2 hg2 hb2))
  refine wp_loop_rounds 1 ?_
  rw [rounds_succ]
  go_wp2
  go_ret
  have hg3 : w2.heap[w.heap.size]? = some (.cells ((([255] : List Int).map (Value.int .u8)).toArray) 5 (0, 0)) := by simpa [splice] using hg2.out
  exact ⟨rfl, ⟨hg3⟩, hb2⟩

set_option maxHeartbeats 800000 in
set_option maxRecDepth 100000 in
theorem repeat_two (ad : Addr) (w : World) (hc : w.cell? ad = some (.int .u8 255)) :
    Calls Try.prog 126 #[.slice (some ad) 1 1, .int .i64 2] w fun e w' => e = .returned (.slice (some ⟨w.heap.size, 0, none⟩) 2 2) ∧ Blk w' w.heap.size [255, 255] ∧ Below w.heap.size w w' := by
  have hmk : ∀ W, (Instr.makeSlice 24 (.int .i64 2) (.int .i64 2)).run Try.prog W = .ok (.slice (some ⟨W.heap.size, 0, none⟩) 2 2) (W.alloc (.cells #[.int .u8 0, .int .u8 0] 5)) := fun _ => by kernel_rfl
  have HC := Aside0.mk (pw_cell_below ((Below.refl w.heap.size w).alloc (Nat.le_refl _) (.cells #[.int .u8 0, .int .u8 0] 5)) hc)
  have HP : Aside0 (∀ (j : Nat) (v : Value), ([.int .u8 255] : List Value)[j]? = some v → (w.alloc (.cells #[.int .u8 0, .int .u8 0] 5)).cell? (ad.add j) = some v) := ⟨fun j v hj => by
    rcases j with _ | j
    · simp at hj; subst hj; rw [add_none ad]; exact HC.out
    · simp at hj⟩
  have HB := Aside0.mk ((Below.refl w.heap.size w).alloc (Nat.le_refl _) (.cells #[.int .u8 0, .int .u8 0] 5))
  have HG := Aside0.mk (heap_alloc_new w (.cells #[.int .u8 0, .int .u8 0] 5))
  go_enter Try.func126, Try.ntmps126
  go_wp2_with (first | (go_at_call 174; refine (mul_two _).mono ?_; rintro e w' ⟨rfl, rfl⟩) | (refine wpList_copy_splice rfl (.tmp 31) (.tmp 32) 24 24 rfl 5 Try.underlying24 (by kernel_rfl) (some ⟨w.heap.size, 0, none⟩) (some ad) 2 2 1 1 rfl rfl w.heap.size 0 [.int .u8 0, .int .u8 0] 5 HG.out [.int .u8 255] rfl (fun _ => ⟨rfl, ad, rfl, HP.out⟩) (by decide) (by simp [Value.oneCell']) w.heap.size w HB.out (Nat.le_refl _) ?_; intro w2 hg2 hb2))
  have HB2 := Aside0.mk hb2
  have hg3 : Aside0 (w2.heap[w.heap.size]? = some (.cells ([.int .u8 255, .int .u8 0] : List Value).toArray 5 (0, 0))) := ⟨by simpa [splice] using hg2.out⟩
  clear hb2 hg2
  have hcut1 : ∀ W, (Instr.slice 24 (.slice (some ⟨w.heap.size, 0, none⟩) 2 2) (some (.int .i64 1)) none none).run Try.prog W = .ok (.slice (some ⟨w.heap.size, 1, none⟩) 1 1) W := fun _ => by kernel_rfl
  have hcut2 : ∀ W, (Instr.slice 24 (.slice (some ⟨w.heap.size, 0, none⟩) 2 2) none (some (.int .i64 1)) none).run Try.prog W = .ok (.slice (some ⟨w.heap.size, 0, none⟩) 1 2) W := fun _ => by kernel_rfl
  have hg4 : Aside0 (w2.drew.heap[w.heap.size]? = some (.cells ([.int .u8 255, .int .u8 0] : List Value).toArray 5 (0, 0))) := ⟨hg3.out⟩
  have HB4 : Aside0 (Below w.heap.size w w2.drew) := ⟨HB2.out.drew⟩
  have HP4 : Aside0 (∀ (j : Nat) (v : Value), ([.int .u8 255] : List Value)[j]? = some v → w2.drew.cell? ((⟨w.heap.size, 0, none⟩ : Addr).add j) = some v) := ⟨fun j v hj => by
    rcases j with _ | j
    · simp at hj; subst hj; rw [add_none]; exact (blk_cell hg4.out 0).trans rfl
    · simp at hj⟩
  clear hg3 HB2
  refine wp_loop_rounds 2 ?_
  rw [rounds_succ]
  go_wp2
  go_region_law (refine step_copy_splice rfl (.tmp 41) (.tmp 44) 24 24 rfl 5 Try.underlying24 (by kernel_rfl) (some ⟨w.heap.size, 1, none⟩) (some ⟨w.heap.size, 0, none⟩) 1 1 1 2 (by simp [Act.eval, Act.put]) (by simp [Act.eval, Act.put]) w.heap.size 1 [.int .u8 255, .int .u8 0] 5 hg4.out [.int .u8 255] rfl (fun _ => ⟨rfl, _, rfl, HP4.out⟩) (by decide) (by simp [Value.oneCell']) w.heap.size w HB4.out (Nat.le_refl _) ?_; intro w5 hg5 hb5)
  all_goals
    have HB5 := Aside0.mk hb5
    have hg6 : Aside0 (w5.heap[w.heap.size]? = some (.cells ([.int .u8 255, .int .u8 255] : List Value).toArray 5 (0, 0))) := ⟨by simpa [splice] using hg5.out⟩
    clear hb5 hg5
    go_wp2
    rw [rounds_succ]
    go_wp2
    go_ret
    exact ⟨rfl, ⟨hg6.out⟩, HB5.out⟩

/-- The bytes of the set of all of n tracks. -/
def allB (n : Int) : List Int := if n ≤ 8 then [2 ^ n.toNat - 1] else [255, 2 ^ (n - 8).toNat - 1]
def bits_All.f (a0 : Int) : Option (List Int × Int) := if 1 ≤ a0 ∧ a0 ≤ 16 then some (allB a0, 0) else some ([], 2)

theorem Blk.below {W W1 : World} {g : Nat} {xs : List Int} (h : Blk W g xs) (hb : Below W.heap.size W W1) : Blk W1 g xs := ⟨blk_below h.out hb⟩
theorem Blk.put {W : World} {g : Nat} {xs : List Int} (h : Blk W g xs) (i : Nat) (x : Int) : Blk (W.setCell ⟨g, i, none⟩ (.int .u8 x)) g (xs.set i x) := by
  have := blk_set h.out i (Value.int .u8 x)
  refine ⟨this.trans ?_⟩
  congr 2
  rw [List.map_set]
  simp
theorem Blk.cell {W : World} {g : Nat} {xs : List Int} (h : Blk W g xs) (i : Nat) (x : Int) (hx : xs[i]? = some x) : W.cell? ⟨g, i, none⟩ = some (.int .u8 x) := by
  refine (blk_cell h.out i).trans ?_
  simp [hx]
theorem Blk.free {W : World} {g : Nat} {xs : List Int} (h : Blk W g xs) (i : Nat) : W.frozen? ⟨g, i, none⟩ = false := by simp [World.frozen?, h.out]
theorem Blk.row {W : World} {base g : Nat} {xs : List Int} (h : Blk W g xs) (hb : base ≤ g) (hm : xs.length ≤ 9223372036854775807) : Kd.R (Kd.int .u8) 5 W base (fun _ => True) (.slice (some ⟨g, 0, none⟩) xs.length xs.length) xs := row_of_block hb xs hm h.out

set_option maxHeartbeats 8000000 in
set_option maxRecDepth 100000 in
theorem all_one (n : Nat) (hn : 1 ≤ n) (hn2 : n ≤ 8) (w : World) :
    Calls Try.prog 61 #[.int .i64 (n : Int)] w fun e w' => ∃ v0_ : Value, e = .returned (.tuple #[v0_, .int .i64 0]) ∧ Kd.R (Kd.int .u8) 5 w' w.heap.size (fun _ => True) v0_ (allB n) ∧ Below w.heap.size w w' := by
  have HN : Aside0 ((w.alloc (.cells #[.int .u8 255] 5)).cell? ⟨w.heap.size, 0, none⟩ = some (.int .u8 255)) := ⟨by have := cell_one_new w (.int .u8 255) 5 0 _ rfl; rwa [add_none] at this⟩
  have HB0 := Aside0.mk ((Below.refl w.heap.size w).alloc (Nat.le_refl _) (.cells #[.int .u8 255] 5))
  obtain rfl | rfl | rfl | rfl | rfl | rfl | rfl | rfl : n = 1 ∨ n = 2 ∨ n = 3 ∨ n = 4 ∨ n = 5 ∨ n = 6 ∨ n = 7 ∨ n = 8 := by omega
  · go_enter Try.func61, Try.ntmps61
    go_wp2_with (first | (go_at_call 126; refine (repeat_one _ _ HN.out).mono ?_; rintro e w1 ⟨rfl, hk, hb⟩; rw [World.size_alloc] at hk; (have hc1 := hk.cell 0 255 rfl); (have hf1 := hk.free 0); (have HK := Aside0.mk hk); (have HB := Aside0.mk (below_then HB0.out (by simp) hb)); clear hk hb) | go_in)
    go_ret2
    exact ⟨_, rfl, (HK.out.put 0 1).row (by omega) (by decide), below_set HB.out (by simp)⟩
  · go_enter Try.func61, Try.ntmps61
    go_wp2_with (first | (go_at_call 126; refine (repeat_one _ _ HN.out).mono ?_; rintro e w1 ⟨rfl, hk, hb⟩; rw [World.size_alloc] at hk; (have hc1 := hk.cell 0 255 rfl); (have hf1 := hk.free 0); (have HK := Aside0.mk hk); (have HB := Aside0.mk (below_then HB0.out (by simp) hb)); clear hk hb) | go_in)
    go_ret2
    exact ⟨_, rfl, (HK.out.put 0 3).row (by omega) (by decide), below_set HB.out (by simp)⟩
  · go_enter Try.func61, Try.ntmps61
    go_wp2_with (first | (go_at_call 126; refine (repeat_one _ _ HN.out).mono ?_; rintro e w1 ⟨rfl, hk, hb⟩; rw [World.size_alloc] at hk; (have hc1 := hk.cell 0 255 rfl); (have hf1 := hk.free 0); (have HK := Aside0.mk hk); (have HB := Aside0.mk (below_then HB0.out (by simp) hb)); clear hk hb) | go_in)
    go_ret2
    exact ⟨_, rfl, (HK.out.put 0 7).row (by omega) (by decide), below_set HB.out (by simp)⟩
  · go_enter Try.func61, Try.ntmps61
    go_wp2_with (first | (go_at_call 126; refine (repeat_one _ _ HN.out).mono ?_; rintro e w1 ⟨rfl, hk, hb⟩; rw [World.size_alloc] at hk; (have hc1 := hk.cell 0 255 rfl); (have hf1 := hk.free 0); (have HK := Aside0.mk hk); (have HB := Aside0.mk (below_then HB0.out (by simp) hb)); clear hk hb) | go_in)
    go_ret2
    exact ⟨_, rfl, (HK.out.put 0 15).row (by omega) (by decide), below_set HB.out (by simp)⟩
  · go_enter Try.func61, Try.ntmps61
    go_wp2_with (first | (go_at_call 126; refine (repeat_one _ _ HN.out).mono ?_; rintro e w1 ⟨rfl, hk, hb⟩; rw [World.size_alloc] at hk; (have hc1 := hk.cell 0 255 rfl); (have hf1 := hk.free 0); (have HK := Aside0.mk hk); (have HB := Aside0.mk (below_then HB0.out (by simp) hb)); clear hk hb) | go_in)
    go_ret2
    exact ⟨_, rfl, (HK.out.put 0 31).row (by omega) (by decide), below_set HB.out (by simp)⟩
  · go_enter Try.func61, Try.ntmps61
    go_wp2_with (first | (go_at_call 126; refine (repeat_one _ _ HN.out).mono ?_; rintro e w1 ⟨rfl, hk, hb⟩; rw [World.size_alloc] at hk; (have hc1 := hk.cell 0 255 rfl); (have hf1 := hk.free 0); (have HK := Aside0.mk hk); (have HB := Aside0.mk (below_then HB0.out (by simp) hb)); clear hk hb) | go_in)
    go_ret2
    exact ⟨_, rfl, (HK.out.put 0 63).row (by omega) (by decide), below_set HB.out (by simp)⟩
  · go_enter Try.func61, Try.ntmps61
    go_wp2_with (first | (go_at_call 126; refine (repeat_one _ _ HN.out).mono ?_; rintro e w1 ⟨rfl, hk, hb⟩; rw [World.size_alloc] at hk; (have hc1 := hk.cell 0 255 rfl); (have hf1 := hk.free 0); (have HK := Aside0.mk hk); (have HB := Aside0.mk (below_then HB0.out (by simp) hb)); clear hk hb) | go_in)
    go_ret2
    exact ⟨_, rfl, (HK.out.put 0 127).row (by omega) (by decide), below_set HB.out (by simp)⟩
  · go_enter Try.func61, Try.ntmps61
    go_wp2_with (first | (go_at_call 126; refine (repeat_one _ _ HN.out).mono ?_; rintro e w1 ⟨rfl, hk, hb⟩; rw [World.size_alloc] at hk; (have hc1 := hk.cell 0 255 rfl); (have hf1 := hk.free 0); (have HK := Aside0.mk hk); (have HB := Aside0.mk (below_then HB0.out (by simp) hb)); clear hk hb) | go_in)
    go_ret2
    exact ⟨_, rfl, HK.out.row (by omega) (by decide), HB.out⟩
set_option maxHeartbeats 8000000 in
set_option maxRecDepth 100000 in
theorem all_two (n : Nat) (hn : 9 ≤ n) (hn2 : n ≤ 16) (w : World) :
    Calls Try.prog 61 #[.int .i64 (n : Int)] w fun e w' => ∃ v0_ : Value, e = .returned (.tuple #[v0_, .int .i64 0]) ∧ Kd.R (Kd.int .u8) 5 w' w.heap.size (fun _ => True) v0_ (allB n) ∧ Below w.heap.size w w' := by
  have HN : Aside0 ((w.alloc (.cells #[.int .u8 255] 5)).cell? ⟨w.heap.size, 0, none⟩ = some (.int .u8 255)) := ⟨by have := cell_one_new w (.int .u8 255) 5 0 _ rfl; rwa [add_none] at this⟩
  have HB0 := Aside0.mk ((Below.refl w.heap.size w).alloc (Nat.le_refl _) (.cells #[.int .u8 255] 5))
  obtain rfl | rfl | rfl | rfl | rfl | rfl | rfl | rfl : n = 9 ∨ n = 10 ∨ n = 11 ∨ n = 12 ∨ n = 13 ∨ n = 14 ∨ n = 15 ∨ n = 16 := by omega
  · go_enter Try.func61, Try.ntmps61
    go_wp2_with (first | (go_at_call 126; refine (repeat_two _ _ HN.out).mono ?_; rintro e w1 ⟨rfl, hk, hb⟩; rw [World.size_alloc] at hk; (have hc1 := hk.cell 1 255 rfl); (have hf1 := hk.free 1); (have HK := Aside0.mk hk); (have HB := Aside0.mk (below_then HB0.out (by simp) hb)); clear hk hb) | go_in)
    go_ret2
    exact ⟨_, rfl, (HK.out.put 1 1).row (by omega) (by decide), below_set HB.out (by simp)⟩
  · go_enter Try.func61, Try.ntmps61
    go_wp2_with (first | (go_at_call 126; refine (repeat_two _ _ HN.out).mono ?_; rintro e w1 ⟨rfl, hk, hb⟩; rw [World.size_alloc] at hk; (have hc1 := hk.cell 1 255 rfl); (have hf1 := hk.free 1); (have HK := Aside0.mk hk); (have HB := Aside0.mk (below_then HB0.out (by simp) hb)); clear hk hb) | go_in)
    go_ret2
    exact ⟨_, rfl, (HK.out.put 1 3).row (by omega) (by decide), below_set HB.out (by simp)⟩
  · go_enter Try.func61, Try.ntmps61
    go_wp2_with (first | (go_at_call 126; refine (repeat_two _ _ HN.out).mono ?_; rintro e w1 ⟨rfl, hk, hb⟩; rw [World.size_alloc] at hk; (have hc1 := hk.cell 1 255 rfl); (have hf1 := hk.free 1); (have HK := Aside0.mk hk); (have HB := Aside0.mk (below_then HB0.out (by simp) hb)); clear hk hb) | go_in)
    go_ret2
    exact ⟨_, rfl, (HK.out.put 1 7).row (by omega) (by decide), below_set HB.out (by simp)⟩
  · go_enter Try.func61, Try.ntmps61
    go_wp2_with (first | (go_at_call 126; refine (repeat_two _ _ HN.out).mono ?_; rintro e w1 ⟨rfl, hk, hb⟩; rw [World.size_alloc] at hk; (have hc1 := hk.cell 1 255 rfl); (have hf1 := hk.free 1); (have HK := Aside0.mk hk); (have HB := Aside0.mk (below_then HB0.out (by simp) hb)); clear hk hb) | go_in)
    go_ret2
    exact ⟨_, rfl, (HK.out.put 1 15).row (by omega) (by decide), below_set HB.out (by simp)⟩
  · go_enter Try.func61, Try.ntmps61
    go_wp2_with (first | (go_at_call 126; refine (repeat_two _ _ HN.out).mono ?_; rintro e w1 ⟨rfl, hk, hb⟩; rw [World.size_alloc] at hk; (have hc1 := hk.cell 1 255 rfl); (have hf1 := hk.free 1); (have HK := Aside0.mk hk); (have HB := Aside0.mk (below_then HB0.out (by simp) hb)); clear hk hb) | go_in)
    go_ret2
    exact ⟨_, rfl, (HK.out.put 1 31).row (by omega) (by decide), below_set HB.out (by simp)⟩
  · go_enter Try.func61, Try.ntmps61
    go_wp2_with (first | (go_at_call 126; refine (repeat_two _ _ HN.out).mono ?_; rintro e w1 ⟨rfl, hk, hb⟩; rw [World.size_alloc] at hk; (have hc1 := hk.cell 1 255 rfl); (have hf1 := hk.free 1); (have HK := Aside0.mk hk); (have HB := Aside0.mk (below_then HB0.out (by simp) hb)); clear hk hb) | go_in)
    go_ret2
    exact ⟨_, rfl, (HK.out.put 1 63).row (by omega) (by decide), below_set HB.out (by simp)⟩
  · go_enter Try.func61, Try.ntmps61
    go_wp2_with (first | (go_at_call 126; refine (repeat_two _ _ HN.out).mono ?_; rintro e w1 ⟨rfl, hk, hb⟩; rw [World.size_alloc] at hk; (have hc1 := hk.cell 1 255 rfl); (have hf1 := hk.free 1); (have HK := Aside0.mk hk); (have HB := Aside0.mk (below_then HB0.out (by simp) hb)); clear hk hb) | go_in)
    go_ret2
    exact ⟨_, rfl, (HK.out.put 1 127).row (by omega) (by decide), below_set HB.out (by simp)⟩
  · go_enter Try.func61, Try.ntmps61
    go_wp2_with (first | (go_at_call 126; refine (repeat_two _ _ HN.out).mono ?_; rintro e w1 ⟨rfl, hk, hb⟩; rw [World.size_alloc] at hk; (have hc1 := hk.cell 1 255 rfl); (have hf1 := hk.free 1); (have HK := Aside0.mk hk); (have HB := Aside0.mk (below_then HB0.out (by simp) hb)); clear hk hb) | go_in)
    go_ret2
    exact ⟨_, rfl, HK.out.row (by omega) (by decide), HB.out⟩

set_option maxHeartbeats 800000 in
set_option maxRecDepth 100000 in
theorem all_no (a0 : Int) (h : ¬ (1 ≤ a0 ∧ a0 ≤ 16)) (w : World) :
    Calls Try.prog 61 #[.int .i64 a0] w fun e w' => e = .returned (.tuple #[.slice none 0 0, .int .i64 2]) ∧ w = w' := by
  by_cases h1 : 1 ≤ a0
  · have h2 : decide (a0 ≤ 16) = false := by simp; omega
    have h3 : decide (1 ≤ a0) = true := by simp; omega
    clear h
    go_enter Try.func61, Try.ntmps61
    go_wp2
    go_ret2
    exact ⟨rfl, rfl⟩
  · have h2 : decide (1 ≤ a0) = false := by simp; omega
    clear h h1
    go_enter Try.func61, Try.ntmps61
    go_wp2
    go_ret2
    exact ⟨rfl, rfl⟩

theorem bits_All.calls (a0 : Int) (r1 : List Int) (r2 : Int) (w : World) (h : bits_All.f a0 = some (r1, r2)) :
    Calls Try.prog 61 #[.int .i64 a0] w fun e w' => ∃ v0_ : Value, e = .returned (.tuple #[v0_, .int .i64 r2]) ∧ Kd.R (Kd.int .u8) 5 w' w.heap.size (fun _ => True) v0_ r1 ∧ Below w.heap.size w w' := by
  unfold bits_All.f at h
  by_cases hs : 1 ≤ a0 ∧ a0 ≤ 16
  · rw [if_pos hs] at h
    simp only [Option.some.injEq, Prod.mk.injEq] at h
    obtain ⟨rfl, rfl⟩ := h
    obtain ⟨n, rfl⟩ := Int.eq_ofNat_of_zero_le (show 0 ≤ a0 by omega)
    by_cases h8 : n ≤ 8
    · exact all_one n (by omega) h8 w
    · exact all_two n (by omega) (by omega) w
  · rw [if_neg hs] at h
    simp only [Option.some.injEq, Prod.mk.injEq] at h
    obtain ⟨rfl, rfl⟩ := h
    refine (all_no a0 hs w).mono ?_
    rintro e w' ⟨rfl, rfl⟩
    exact ⟨_, rfl, Kd.R_nil _ _ _ _ _, Below.refl _ _⟩
end Go.Proofs.Ytpbnppeodoflcaa.E

/- place.parts. -/
import Derived.Test.YtpbnppeodoflcaaF2
import Derived.Deep.RegionHeld3
namespace Go.Proofs.Ytpbnppeodoflcaa.E
open Go.RowKit Go.Proofs.YtpbnppeodoflcaaW.PrintWords Go.Proofs.YtpbnppeodoflcaaW.PrintLast Go.Proofs.YtpbnppeodoflcaaW.PrintMore Go.Proofs.Ytpbnppeodoflcaa.K
set_option linter.unusedVariables false
set_option linter.unusedSimpArgs false

def pgsS (t : Int) : Int := wrap64 (Int.tdiv (wrap64 (wrap64 (t + 8) - 1)) 8)
set_option maxHeartbeats 800000 in
set_option maxRecDepth 100000 in
theorem pages_any (c0 c1 c2 c3 c4 c5 : Int) (w : World) : Calls Try.prog 197 #[.agg #[.int .i64 c0, .int .i64 c1, .int .i64 c2, .int .i64 c3, .int .i64 c4, .int .i64 c5]] w fun e w' => e = .returned (.int .i64 (pgsS c1)) ∧ w' = w.alloc (.cells #[.int .i64 c0, .int .i64 c1, .int .i64 c2, .int .i64 c3, .int .i64 c4, .int .i64 c5] 23) := by
  go_enter Try.func197, Try.ntmps197
  go_wp2
  go_ret
  exact ⟨rfl, rfl⟩
set_option maxHeartbeats 800000 in
set_option maxRecDepth 100000 in
theorem size_any (k o m n : Int) (w : World) : Calls Try.prog 194 #[.agg #[.int .u8 k, .int .i64 o, .int .i64 m, .int .i64 n]] w fun e w' => e = .returned (.int .i64 (wrap64 (wrap64 (o * m) * n))) ∧ Below w.heap.size w w' := by
  have HB := Aside0.mk ((Below.refl w.heap.size w).alloc (Nat.le_refl _) (.cells #[.int .u8 k, .int .i64 o, .int .i64 m, .int .i64 n] 267))
  go_enter Try.func194, Try.ntmps194
  go_wp2
  go_ret
  exact ⟨rfl, HB.out⟩
theorem results_c1 {P : Program} {fn : Func} {p : Tmp} {ty : TypeId} (h : fn.results = #[.cell p ty]) (tmps : Array Value) (w : World) (g : Nat) (t : TypeId) (cs : Array Value) (fr : Nat × Nat) (d : TypeDesc)
    (hp : tmps.getD p undef = .pointer (some ⟨g, 0, none⟩)) (hg : w.heap[g]? = some (.cells cs t fr))
    (hu : P.underlying ty = some d) (hd : (match d with | .struct _ | .array _ _ => true | _ => false) = true) (hi : (P.info? ty).map (·.size) = some cs.size) :
    (results fn tmps).run P w = .ok (.agg cs) w := by
  have hp' : tmps[p]?.getD undef = .pointer (some ⟨g, 0, none⟩) := by simpa using hp
  simp [results, h, hp', asAddr, run_loadVar_row w g t ty cs fr d hg hu hd hi]
/-- The four parts. -/
def partsV (c0 c1 c2 : Int) : Array Value := #[.int .u8 1, .int .i64 1, .int .i64 1, .int .i64 2, .int .u8 2, .int .i64 2, .int .i64 c2, .int .i64 1, .int .u8 3, .int .i64 c0, .int .i64 (pgsS c1), .int .i64 1, .int .u8 4, .int .i64 c0, .int .i64 c1, .int .i64 4]
set_option maxHeartbeats 8000000 in
set_option maxRecDepth 100000 in
theorem parts_any (c0 c1 c2 c3 c4 c5 : Int) (w : World) : Calls Try.prog 193 #[.agg #[.int .i64 c0, .int .i64 c1, .int .i64 c2, .int .i64 c3, .int .i64 c4, .int .i64 c5]] w fun e w' => e = .returned (.agg (partsV c0 c1 c2)) ∧ Below w.heap.size w w' := by
  have hn : ∀ (j : Nat) (v : Value) (W : World), W.cell? ⟨w.heap.size, j, none⟩ = some v → ∀ o, (W.alloc o).cell? ⟨w.heap.size, j, none⟩ = some v := fun j v W hW o => pw_cell_below (below_alloc (Below.refl _ _) _) hW
  go_enter Try.func193, Try.ntmps193
  go_wp2_with fail
  go_region_held3 (fun w' => w'.cell? ⟨w.heap.size, 0, none⟩ = some (.int .i64 c0) ∧ w'.cell? ⟨w.heap.size, 1, none⟩ = some (.int .i64 c1) ∧ w'.cell? ⟨w.heap.size, 2, none⟩ = some (.int .i64 c2) ∧ w'.cell? ⟨w.heap.size, 3, none⟩ = some (.int .i64 c3) ∧ w'.cell? ⟨w.heap.size, 4, none⟩ = some (.int .i64 c4) ∧ w'.cell? ⟨w.heap.size, 5, none⟩ = some (.int .i64 c5)) (first | go_keep | exact ⟨hn _ _ _ (by assumption) _, hn _ _ _ (by assumption) _, hn _ _ _ (by assumption) _, hn _ _ _ (by assumption) _, hn _ _ _ (by assumption) _, hn _ _ _ (by assumption) _⟩) (first | (go_at_call 197; refine (pages_any c0 c1 c2 c3 c4 c5 _).mono ?_; rintro e w2 ⟨rfl, rfl⟩))
  go_wp2
  have HG2 := heap_alloc_new (w.alloc (.cells #[.int .i64 c0, .int .i64 c1, .int .i64 c2, .int .i64 c3, .int .i64 c4, .int .i64 c5] 23)) (.cells (partsV c0 c1 c2) 268)
  rw [World.size_alloc] at HG2
  (try simp only [Exit.inBlock, Exit.then])
  refine bodyPost_ret (results_c1 rfl _ _ (w.heap.size + 1) 268 (partsV c0 c1 c2) (0, 0) _ rfl (by refine blk_drew ?_; refine blk_alloc ?_ _; exact HG2) Try.underlying268 rfl (by kernel_rfl)) rfl ?_
  exact ⟨rfl, by repeat (first | exact Below.refl _ _ | apply below_drew | apply below_alloc)⟩
end Go.Proofs.Ytpbnppeodoflcaa.E

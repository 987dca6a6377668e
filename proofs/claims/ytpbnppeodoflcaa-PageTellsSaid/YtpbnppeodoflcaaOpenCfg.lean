/- A config that comes in is six whole numbers. -/
import Derived.Test.YtpbnppeodoflcaaK
import Derived.WalkKit
import Derived.ProofKit
import Derived.OpenShut
import Derived.ChangeOld
import Derived.ChangeArms
namespace Go.Proofs.Ytpbnppeodoflcaa.E
open Go.ChangeShapes Go.WideShapes Go.ChangeAt Go.RowKit
set_option linter.unusedVariables false
set_option maxRecDepth 100000 in
set_option linter.constructorNameAsVariable false in
theorem open_cfg {H : Type} {enc : TypeId × Value → H} {W : World} {base : Nat} {sp : Nat → Bool} {held : Bool} {r : Reach} {b0 : Nat} {v : Value} {d : DataW H} {ps : List MemPlace}
    (hv : Value.okWide Try.prog W r b0 23 v) (h : DataW.Trod enc Try.prog W base sp held 23 v d ps) :
    ∃ c0 c1 c2 c3 c4 c5 : Int, v = .agg #[.int .i64 c0, .int .i64 c1, .int .i64 c2, .int .i64 c3, .int .i64 c4, .int .i64 c5] ∧ (Lit.int .i64 c0).wf = true ∧ (Lit.int .i64 c1).wf = true ∧ (Lit.int .i64 c2).wf = true ∧ (Lit.int .i64 c3).wf = true ∧ (Lit.int .i64 c4).wf = true ∧ (Lit.int .i64 c5).wf = true := by
  obtain ⟨cs, rfl, hsz⟩ := okWide_struct Try.underlying23 hv
  obtain ⟨fuel, hf⟩ := h
  obtain ⟨xs, n, _, _, hl, hlen, hfs⟩ := DataW.trod_struct Try.underlying23 hf
  have hcells : Try.prog.cellsOf 23 = 6 := by kernel_rfl
  have hone : Try.prog.cellsOf 3 = 1 := by kernel_rfl
  rw [hcells] at hl
  simp only [Value.cells] at hl hfs
  obtain ⟨l⟩ := cs
  simp only [] at hl hfs
  match l, hl with
  | [v0, v1, v2, v3, v4, v5], _ =>
    match xs, hlen with
    | [y0, y1, y2, y3, y4, y5], _ =>
      obtain ⟨c0, h0, _, w0⟩ := DataW.trod_int Try.underlying3 (by have := hfs 0 _ rfl; simpa [hone] using this)
      obtain ⟨c1, h1, _, w1⟩ := DataW.trod_int Try.underlying3 (by have := hfs 1 _ rfl; simpa [hone] using this)
      obtain ⟨c2, h2, _, w2⟩ := DataW.trod_int Try.underlying3 (by have := hfs 2 _ rfl; simpa [hone] using this)
      obtain ⟨c3, h3, _, w3⟩ := DataW.trod_int Try.underlying3 (by have := hfs 3 _ rfl; simpa [hone] using this)
      obtain ⟨c4, h4, _, w4⟩ := DataW.trod_int Try.underlying3 (by have := hfs 4 _ rfl; simpa [hone] using this)
      obtain ⟨c5, h5, _, w5⟩ := DataW.trod_int Try.underlying3 (by have := hfs 5 _ rfl; simpa [hone] using this)
      simp only [List.cons.injEq, and_true] at h0 h1 h2 h3 h4 h5
      subst h0 h1 h2 h3 h4 h5
      exact ⟨c0, c1, c2, c3, c4, c5, rfl, w0, w1, w2, w3, w4, w5⟩
end Go.Proofs.Ytpbnppeodoflcaa.E

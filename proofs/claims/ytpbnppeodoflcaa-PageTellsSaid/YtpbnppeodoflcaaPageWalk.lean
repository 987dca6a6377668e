/- PageTells: the walk of the law. -/
import Derived.Test.YtpbnppeodoflcaaPurePageTells
namespace Go.Proofs.Ytpbnppeodoflcaa.E
open Go.RowKit Go.Proofs.Ytpbnppeodoflcaa.PPg Go.Proofs.Ytpbnppeodoflcaa.Pure Go.Proofs.YtpbnppeodoflcaaW.PrintWords Go.Proofs.YtpbnppeodoflcaaW.PrintLast Go.Proofs.YtpbnppeodoflcaaW.PrintMore Go.Proofs.Ytpbnppeodoflcaa.K
set_option linter.unusedVariables false
set_option linter.unusedSimpArgs false

set_option maxHeartbeats 8000000 in
set_option maxRecDepth 100000 in
theorem page_walk (c0 c1 c2 c3 c4 c5 a1 a2 a3 : Int) (w : World) (h0 : (Lit.int .i64 c0).wf = true) (h3 : (Lit.int .u8 a3).wf = true) :
    Calls Try.prog 3 #[.agg #[.int .i64 c0, .int .i64 c1, .int .i64 c2, .int .i64 c3, .int .i64 c4, .int .i64 c5], .int .i64 a1, .int .i64 a2, .int .u8 a3] w fun e w' => e = .returned (.bool true) ∧ Below w.heap.size w w' := by
  have E1 := Aside0.mk (Text_tells c0 c1 c2 c3 c4 c5 a1 a2 a3 h0)
  have E2 := Aside0.mk (RText_tells c0 c1 c2 c3 c4 c5 a1 a2 a3 h0 h3 0)
  have E3 := Aside0.mk (Plan_tells c0 c1 c2 c3 c4 c5 a1 a2 a3 h0)
  have E4 := Aside0.mk (RPlan_tells c0 c1 c2 c3 c4 c5 a1 a2 a3 h0 h3 0)
  clear h0 h3
  generalize textS c0 c1 c2 c3 c4 c5 a1 a2 a3 = T at E1 E2
  generalize planS c0 c1 c2 c3 c4 c5 a1 a2 a3 = P at E3 E4
  obtain ⟨tl, te⟩ := T
  obtain ⟨pa, pl, pe⟩ := P
  have HB0 := Aside0.mk ((Below.refl w.heap.size w).alloc (Nat.le_refl _) (.cells #[.int .i64 c0, .int .i64 c1, .int .i64 c2, .int .i64 c3, .int .i64 c4, .int .i64 c5] 23))
  have HG0 := Aside0.mk (heap_alloc_new w (.cells #[.int .i64 c0, .int .i64 c1, .int .i64 c2, .int .i64 c3, .int .i64 c4, .int .i64 c5] 23))
  go_enter Try.func3, Try.ntmps3
  go_wp2_with fail
  go_at_call 15
  refine (page_Text.calls c0 c1 c2 c3 c4 c5 a1 a2 a3 tl te _ E1.out).mono ?_
  rintro e w1 ⟨v1, rfl, hr, hb⟩
  have HB1 := Aside0.mk (below_then HB0.out HB0.out.size hb)
  have HG1 := Aside0.mk (blk_below HG0.out hb)
  have HR1 := Aside0.mk hr
  have k0 := (blk_cell HG1.out 0).trans rfl
  have k1 := (blk_cell HG1.out 1).trans rfl
  have k2 := (blk_cell HG1.out 2).trans rfl
  have k3 := (blk_cell HG1.out 3).trans rfl
  have k4 := (blk_cell HG1.out 4).trans rfl
  have k5 := (blk_cell HG1.out 5).trans rfl
  clear hr hb
  go_wp2_with fail
  go_at_call 16
  refine (catamaranref13_Text.calls 1 c0 c1 c2 c3 c4 c5 a1 a2 a3 tl te _ E2.out).mono ?_
  rintro e w2 ⟨v2, rfl, hr, hb⟩
  have HB2 := Aside0.mk (below_then HB1.out HB1.out.size hb)
  have HG2 := Aside0.mk (blk_below HG1.out hb)
  have HR2 := Aside0.mk (Kd.R_below HR1.out hb)
  have HS2 := Aside0.mk hr
  clear hr hb k0 k1 k2 k3 k4 k5
  have k0 := (blk_cell HG2.out 0).trans rfl
  have k1 := (blk_cell HG2.out 1).trans rfl
  have k2 := (blk_cell HG2.out 2).trans rfl
  have k3 := (blk_cell HG2.out 3).trans rfl
  have k4 := (blk_cell HG2.out 4).trans rfl
  have k5 := (blk_cell HG2.out 5).trans rfl
  go_wp2_with fail
  go_at_call 17
  refine (page_Plan.calls c0 c1 c2 c3 c4 c5 a1 a2 a3 pa pl pe _ E3.out).mono ?_
  rintro e w3 ⟨v3, rfl, hr, hb⟩
  obtain ⟨A3, n3, e3⟩ := Kd.R_slice hr
  subst e3
  have HB3 := Aside0.mk (below_then HB2.out HB2.out.size hb)
  have HG3 := Aside0.mk (blk_alloc (blk_below HG2.out hb) (.cells #[.int .i64 pa, .slice A3 pl.length n3] 31))
  have HR3 := Aside0.mk (Kd.R_alloc (Kd.R_below HR2.out hb) (.cells #[.int .i64 pa, .slice A3 pl.length n3] 31))
  have HS3 := Aside0.mk (Kd.R_alloc (Kd.R_below HS2.out hb) (.cells #[.int .i64 pa, .slice A3 pl.length n3] 31))
  have HT3 := Aside0.mk (Kd.R_alloc hr (.cells #[.int .i64 pa, .slice A3 pl.length n3] 31))
  have HX3 := Aside0.mk (heap_alloc_new w3 (.cells #[.int .i64 pa, .slice A3 pl.length n3] 31))
  have HC3 := Aside0.mk (below_alloc HB3.out (.cells #[.int .i64 pa, .slice A3 pl.length n3] 31))
  clear hr hb k0 k1 k2 k3 k4 k5
  have k0 := (blk_cell HG3.out 0).trans rfl
  have k1 := (blk_cell HG3.out 1).trans rfl
  have k2 := (blk_cell HG3.out 2).trans rfl
  have k3 := (blk_cell HG3.out 3).trans rfl
  have k4 := (blk_cell HG3.out 4).trans rfl
  have k5 := (blk_cell HG3.out 5).trans rfl
  go_wp2_with fail
  go_at_call 18
  refine (catamaranref13_Plan.calls 1 c0 c1 c2 c3 c4 c5 a1 a2 a3 pa pl pe _ E4.out).mono ?_
  rintro e w4 ⟨v4, rfl, hr, hb⟩
  obtain ⟨A4, n4, e4⟩ := Kd.R_slice hr
  subst e4
  have HB4 := Aside0.mk (below_alloc (below_then HC3.out HC3.out.size hb) (.cells #[.int .i64 pa, .slice A4 pl.length n4] 31))
  have hs1 := own_string (P := Try.prog) (src := 24) (dst := 9) Try.underlying24 Try.underlying5 Try.underlying9 (Kd.own_of_R (Kd.R_alloc (Kd.R_below HR3.out hb) (.cells #[.int .i64 pa, .slice A4 pl.length n4] 31)))
  have hs2 := own_string (P := Try.prog) (src := 24) (dst := 9) Try.underlying24 Try.underlying5 Try.underlying9 (Kd.own_of_R (Kd.R_alloc (Kd.R_below HS3.out hb) (.cells #[.int .i64 pa, .slice A4 pl.length n4] 31)))
  have hs3 := own_string (P := Try.prog) (src := 24) (dst := 9) Try.underlying24 Try.underlying5 Try.underlying9 (Kd.own_of_R (Kd.R_alloc (Kd.R_below HT3.out hb) (.cells #[.int .i64 pa, .slice A4 pl.length n4] 31)))
  have hs4 := own_string (P := Try.prog) (src := 24) (dst := 9) Try.underlying24 Try.underlying5 Try.underlying9 (Kd.own_of_R (Kd.R_alloc hr (.cells #[.int .i64 pa, .slice A4 pl.length n4] 31)))
  have hx3 := blk_alloc (blk_below HX3.out hb) (.cells #[.int .i64 pa, .slice A4 pl.length n4] 31)
  have hx4 := heap_alloc_new w4 (.cells #[.int .i64 pa, .slice A4 pl.length n4] 31)
  have m0 := (blk_cell hx3 0).trans rfl
  have m1 := (blk_cell hx3 1).trans rfl
  have m2 := (blk_cell hx4 0).trans rfl
  have m3 := (blk_cell hx4 1).trans rfl
  clear hr hb k0 k1 k2 k3 k4 k5 hx3 hx4
  go_wp2_with fail
  go_ret
  exact ⟨by simp, HB4.out⟩
end Go.Proofs.Ytpbnppeodoflcaa.E

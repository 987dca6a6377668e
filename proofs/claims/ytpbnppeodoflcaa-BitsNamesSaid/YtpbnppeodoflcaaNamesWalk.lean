/- BitsNames: the walk; it takes nothing, so all that it meets is known. -/
import Derived.Test.YtpbnppeodoflcaaE15
import Derived.Test.YtpbnppeodoflcaaPBitsBackx
namespace Go.Proofs.Ytpbnppeodoflcaa.E
open Go.RowKit Go.Proofs.Ytpbnppeodoflcaa.PBitsBack Go.Proofs.YtpbnppeodoflcaaW.PrintWords Go.Proofs.YtpbnppeodoflcaaW.PrintLast Go.Proofs.YtpbnppeodoflcaaW.PrintMore Go.Proofs.Ytpbnppeodoflcaa.K
set_option linter.unusedVariables false
set_option linter.unusedSimpArgs false

theorem lit_C8 (W : World) (xs : List Int) (hm : xs.length ≤ 9223372036854775807) : Kd.C (Kd.int .u8) (W.alloc (.cells ((xs.map (Value.int .u8)).toArray) 5)) (some ⟨W.heap.size, 0, none⟩) xs.length xs :=
  (Kd.R_reads' (row_of_block (Nat.le_refl _) xs hm (heap_alloc_new W _))).2.2
theorem lit_C64 (W : World) (xs : List Int) (hm : xs.length ≤ 9223372036854775807) : Kd.C (Kd.int .i64) (W.alloc (.cells ((xs.map (Value.int .i64)).toArray) 3)) (some ⟨W.heap.size, 0, none⟩) xs.length xs :=
  (Kd.R_reads' (Kd.R_of_own (enc := Value.int .i64) (h1 := fun _ => rfl) (own_lit_of (enc := Value.int .i64) W W.heap.size 3 xs (Nat.le_refl _) hm) (fun _ _ => trivial) : Kd.R (Kd.int .i64) 3 _ W.heap.size (fun _ => True) (.slice (some ⟨W.heap.size, 0, none⟩) xs.length xs.length) xs)).2.2
theorem names_alive : catamaranlaw03_alive.f = some true := by decide +kernel
theorem below_lit {w w1 w2 : World} {o : Obj} (h : Below w.heap.size w w1) (k : Below (w1.alloc o).heap.size (w1.alloc o) w2) : Below w.heap.size w w2 := below_then (below_alloc h o) (below_alloc h o).size k
set_option maxHeartbeats 8000000 in
set_option maxRecDepth 100000 in
theorem names_walk (w : World) : Calls Try.prog 9 #[] w fun e w' => e = .returned (.bool true) ∧ Below w.heap.size w w' := by
  have s22 : strOfNums [2, 2] = (⟨#[2, 2]⟩ : ByteArray) := by decide +kernel
  have s51 : strOfNums [255, 1] = (⟨#[255, 1]⟩ : ByteArray) := by decide +kernel
  have S22 := Aside0.mk s22
  have S51 := Aside0.mk s51
  clear s22 s51
  have HB := Aside0.mk (Below.refl w.heap.size w)
  go_enter Try.func9, Try.ntmps9
  go_wp2_with fail
  go_at_call 25
  refine (q_Next.calls 10 _ 2 [2, 3] 9 9 0 _ (lit_C8 w [2, 3] (by decide)) (by decide) (by decide +kernel)).mono ?_
  rintro e w1 ⟨rfl, hb⟩
  have HB1 := Aside0.mk (below_lit HB.out hb)
  clear hb
  go_wp2_with fail
  go_at_call 60
  refine (q_Minus.calls 10 _ 2 [2, 3] _ 2 [0, 1] [2, 2] 0 _ (Kd.C_below (lit_C8 w1 [2, 3] (by decide)) (below_alloc (Below.refl _ _) _)) (by decide) (by have h := lit_C8 (w1.alloc (.cells #[.int .u8 2, .int .u8 3] 5)) [0, 1] (by decide); rw [World.size_alloc] at h; exact h) (by decide) (by decide +kernel)).mono ?_
  rintro e w2 ⟨v3, rfl, hr, hb⟩
  have HB2 := Aside0.mk (below_then (below_alloc (below_alloc HB1.out _) _) (below_alloc (below_alloc HB1.out _) _).size hb)
  have HR2 := Aside0.mk hr
  clear hb hr
  go_wp2_with fail
  go_at_call 38
  refine (q_Of.calls 17 none 0 [] [] 2 w2 (Kd.C_nil _ _) (by decide) (by decide +kernel)).mono ?_
  rintro e w3 ⟨v5, rfl, hr, hb⟩
  have HB3 := Aside0.mk (below_then HB2.out HB2.out.size hb)
  have HR3 := Aside0.mk (Kd.R_below HR2.out hb)
  clear hb hr
  go_wp2_with fail
  go_at_call 38
  refine (q_Of.calls 10 _ 1 [10] [] 2 _ (lit_C64 w3 [10] (by decide)) (by decide) (by decide +kernel)).mono ?_
  rintro e w4 ⟨v7, rfl, hr, hb⟩
  have HB4 := Aside0.mk (below_lit HB3.out hb)
  have HR4 := Aside0.mk (Kd.R_below (Kd.R_alloc HR3.out _) hb)
  clear hb hr
  go_wp2_with fail
  go_at_call 25
  refine (q_Next.calls 3 _ 1 [0] 0 (-1) 0 _ (lit_C8 w4 [0] (by decide)) (by decide) (by decide +kernel)).mono ?_
  rintro e w5 ⟨rfl, hb⟩
  have HB5 := Aside0.mk (below_lit HB4.out hb)
  have HR5 := Aside0.mk (Kd.R_below (Kd.R_alloc HR4.out _) hb)
  clear hb
  go_wp2_with fail
  go_at_call 25
  refine (q_Next.calls 3 _ 1 [1] 2 0 0 _ (lit_C8 w5 [1] (by decide)) (by decide) (by decide +kernel)).mono ?_
  rintro e w6 ⟨rfl, hb⟩
  have HB6 := Aside0.mk (below_lit HB5.out hb)
  have HR6 := Aside0.mk (Kd.R_below (Kd.R_alloc HR5.out _) hb)
  clear hb
  go_wp2_with fail
  go_at_call 61
  refine (bits_All.calls 9 [255, 1] 0 w6 (by decide +kernel)).mono ?_
  rintro e w7 ⟨v13, rfl, hr, hb⟩
  have HB7 := Aside0.mk (below_then HB6.out HB6.out.size hb)
  have HR7 := Aside0.mk (Kd.R_below HR6.out hb)
  have HT7 := Aside0.mk hr
  clear hb hr
  go_wp2_with fail
  go_at_call 37
  refine (catamaranlaw03_alive.calls true w7 names_alive).mono ?_
  rintro e w8 ⟨rfl, hb⟩
  have HB8 := Aside0.mk (below_then HB7.out HB7.out.size hb)
  have HT8 := Aside0.mk (Kd.R_below HT7.out hb)
  have hcv := own_string (P := Try.prog) (src := 24) (dst := 9) Try.underlying24 Try.underlying5 Try.underlying9 (Kd.own_of_R (Kd.R_below HR7.out hb))
  rw [S22.out] at hcv
  clear hb
  go_wp2_with fail
  go_at_call 62
  refine (bits_Check.calls 10 _ 2 [0, 4] 8 _ (lit_C8 w8 [0, 4] (by decide)) (by decide) (by decide +kernel)).mono ?_
  rintro e w9 ⟨rfl, hb⟩
  have HB9 := Aside0.mk (below_lit HB8.out hb)
  have hcw := own_string (P := Try.prog) (src := 24) (dst := 9) Try.underlying24 Try.underlying5 Try.underlying9 (Kd.own_of_R (Kd.R_below (Kd.R_alloc HT8.out _) hb))
  rw [S51.out] at hcw
  clear hb
  go_wp2_with fail
  go_at_call 62
  refine (bits_Check.calls 0 none 0 [] 2 w9 (Kd.C_nil _ _) (by decide) (by decide +kernel)).mono ?_
  rintro e w10 ⟨rfl, hb⟩
  have HB10 := Aside0.mk (below_then HB9.out HB9.out.size hb)
  clear hb
  go_wp2_with fail
  go_at_call 62
  refine (bits_Check.calls 8 _ 2 [0, 0] 8 _ (lit_C8 w10 [0, 0] (by decide)) (by decide) (by decide +kernel)).mono ?_
  rintro e w11 ⟨rfl, hb⟩
  have HB11 := Aside0.mk (below_lit HB10.out hb)
  clear hb
  go_wp2_with fail
  go_ret
  exact ⟨rfl, HB11.out⟩
end Go.Proofs.Ytpbnppeodoflcaa.E

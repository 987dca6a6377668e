/- place.within, place.Check, place.Page. -/
import Derived.Test.YtpbnppeodoflcaaK
namespace Go.Proofs.Ytpbnppeodoflcaa.E
open Go.RowKit Go.Proofs.YtpbnppeodoflcaaW.PrintWords Go.Proofs.YtpbnppeodoflcaaW.PrintLast Go.Proofs.YtpbnppeodoflcaaW.PrintMore Go.Proofs.Ytpbnppeodoflcaa.K
set_option linter.unusedVariables false
set_option linter.unusedSimpArgs false

def bndB (b : Int × Int × Int) : Bool := !(decide (b.1 < b.2.1) || decide (b.1 > b.2.2))
set_option maxHeartbeats 8000000 in
set_option maxRecDepth 100000 in
theorem within_any (bs : List (Int × Int × Int)) (g c : Nat) (w : World) (hg : g < w.heap.size) (hm : bs.length ≤ 1000) (hc : bs.length ≤ c)
    (h : ∀ (i : Nat) (b : Int × Int × Int), bs[i]? = some b → w.cell? ⟨g, i * 3, none⟩ = some (.int .i64 b.1) ∧ w.cell? ⟨g, i * 3 + 1, none⟩ = some (.int .i64 b.2.1) ∧ w.cell? ⟨g, i * 3 + 2, none⟩ = some (.int .i64 b.2.2)) :
    Calls Try.prog 171 #[.slice (some ⟨g, 0, none⟩) bs.length c] w fun e w' => e = .returned (.bool (bs.all bndB)) ∧ Below w.heap.size w w' := by
  have H := Aside0.mk h
  clear h
  go_enter Try.func171, Try.ntmps171
  go_wp2
  go_loopg [7] (bs.length + 1) (fun kq v7 w' => ∃ (x : Int), v7 = .int .i64 x ∧ Aside0 (0 ≤ x ∧ x + kq = bs.length + 1) ∧ Aside0 ((bs.take x.toNat).all bndB = true) ∧ Aside0 (Below w.heap.size w w'))
  case atStart => exact ⟨0, rfl, ⟨by omega⟩, ⟨by simp⟩, ⟨Below.refl _ _⟩⟩
  case round =>
    obtain ⟨x, rfl, HX, HA, HB⟩ := hrel
    by_cases h1 : x < (bs.length : Int)
    · obtain ⟨i, rfl⟩ := Int.eq_ofNat_of_zero_le HX.out.1
      have c1 : decide ((i : Int) < (bs.length : Int)) = true := decide_eq_true h1
      have c1' : decide (i < bs.length) = true := decide_eq_true (by omega)
      obtain ⟨b, hb⟩ : ∃ b, bs[i]? = some b := ⟨bs[i]'(by omega), List.getElem?_eq_getElem (by omega)⟩
      have HH := Aside0.mk (H.out i b hb)
      have h0 := pw_cell_below HB.out HH.out.1
      have h1' := pw_cell_below HB.out HH.out.2.1
      have h2 := pw_cell_below HB.out HH.out.2.2
      have HBw := Aside0.mk (HB.out.alloc HB.out.size (.cells #[.int .i64 b.1, .int .i64 b.2.1, .int .i64 b.2.2] 242))
      have hT : bs.take (i + 1) = bs.take i ++ [b] := by rw [List.take_add_one, hb]; rfl
      have HT := Aside0.mk hT
      clear hT
      have HW : Aside0 (wrap64 ((i : Int) + 1) = ((i + 1 : Nat) : Int)) := ⟨by unfold wrap64; omega⟩
      by_cases c2 : b.1 < b.2.1
      · have d2 : decide (b.1 < b.2.1) = true := decide_eq_true c2
        go_wp2
        go_ret
        exact ⟨by
          have : bs.all bndB = false := List.all_eq_false.2 ⟨b, List.mem_of_getElem? hb, by simp [bndB, c2]⟩
          rw [this]; rfl, HBw.out⟩
      · have d2 : decide (b.1 < b.2.1) = false := decide_eq_false c2
        by_cases c3 : b.1 > b.2.2
        · have d3 : decide (b.1 > b.2.2) = true := decide_eq_true c3
          go_wp2
          go_ret
          exact ⟨by
            have : bs.all bndB = false := List.all_eq_false.2 ⟨b, List.mem_of_getElem? hb, by simp [bndB, c3]⟩
            rw [this]; rfl, HBw.out⟩
        · have d3 : decide (b.1 > b.2.2) = false := decide_eq_false c3
          go_wp2
          go_roundg (gk - 1)
          case measure => have := HX.out.2; omega
          case rel => exact ⟨((i + 1 : Nat) : Int), (by first | rfl | (rw [← HW.out]; rfl) | (simp; done) | (simp [*]; done)), ⟨by have := HX.out; omega⟩, ⟨by
            have h5 := HA.out
            rw [Int.toNat_natCast] at h5
            rw [Int.toNat_natCast, HT.out, List.all_append, h5]
            simp [bndB, c2, c3]⟩, ⟨HBw.out⟩⟩
    · have c1 : decide (x < (bs.length : Int)) = false := decide_eq_false h1
      go_wp2
      go_ret
      exact ⟨by
        have h5 := HA.out
        rw [List.take_of_length_le (by omega)] at h5
        rw [h5]; rfl, HB.out⟩
end Go.Proofs.Ytpbnppeodoflcaa.E

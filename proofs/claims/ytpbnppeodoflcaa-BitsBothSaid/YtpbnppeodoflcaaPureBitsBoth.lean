/- The plain law of BitsBoth. -/
import Derived.Test.YtpbnppeodoflcaaE16
import Derived.Test.YtpbnppeodoflcaaPBitsBothx
namespace Go.Proofs.Ytpbnppeodoflcaa.Pure
open Go.RowKit Go.Proofs.Ytpbnppeodoflcaa.PBitsBoth Go.Proofs.Ytpbnppeodoflcaa.E Go.Proofs.YtpbnppeodoflcaaW.PrintWords Go.Proofs.YtpbnppeodoflcaaW.PrintLast
set_option linter.unusedVariables false

theorem both_alive : catamaranlaw03_alive.f = some true := by decide +kernel
/-- Of two sets: what is in one of them is what is in the first alone and what is in the second. -/
theorem filter_split (p q : Nat → Bool) (l : List Nat) : (l.filter fun t => p t || q t).length = (l.filter fun t => p t && !q t).length + (l.filter q).length := by
  induction l with
  | nil => rfl
  | cons t l ih =>
    simp only [List.filter_cons]
    cases p t <;> cases q t <;> simp [ih] <;> omega
theorem zip_ok (f : Int → Int → Int) (g : Bool → Bool → Bool) (hg : g false false = false) (hf : ∀ x y : Int, 0 ≤ x ∧ x < 256 → 0 ≤ y ∧ y < 256 → ∀ j, j < 8 → bitB (f x y) j = g (bitB x j) (bitB y j)) (hi : ∀ x y : Int, 0 ≤ x ∧ x < 256 → 0 ≤ y ∧ y < 256 → 0 ≤ f x y ∧ f x y < 256)
    {n : Int} {a b : List Int} (ha : okB a = true) (hb : okB b = true) (h : ck2S n a b = 0) : okB (List.zipWith f a b) = true ∧ ckS n (List.zipWith f a b) = 0 ∧ ∀ t, inS (List.zipWith f a b) t = g (inS a t) (inS b t) := by
  obtain ⟨h1, h2⟩ := ck2S_zero h
  obtain ⟨n0, n1, la, oa⟩ := ckS_zero ha h1
  obtain ⟨_, _, lb, ob⟩ := ckS_zero hb h2
  have hl : b.length = a.length := by omega
  have ho := okB_zip f hi a b ha hb
  have hin := inS_zip f g hg hf a b ha hb hl
  refine ⟨ho, ckS_of ho n0 n1 (by rw [List.length_zipWith, hl, Nat.min_self]; exact la) (fun t ht => ?_), hin⟩
  rw [hin, oa t ht, ob t ht, hg]
theorem BitsBoth : catamaranlaw03_BitsBoth.Pure := by
  intro n a b t h0 hm1 h1 hw1 hm2 h2 hw2 hw3
  have ha := okB_wf hw1
  have hb := okB_wf hw2
  refine ⟨3, ?_⟩
  unfold catamaranlaw03_BitsBoth.f
  rw [both_alive]
  simp only [Option.bind_some]
  by_cases c1 : (a.length : Int) > 100
  · rw [if_pos c1]
    simp [catamaranlaw03_BitsBoth.j0]
  by_cases c2 : (b.length : Int) > 100
  · rw [if_neg c1, if_pos c2]
    simp [catamaranlaw03_BitsBoth.j0]
  rw [if_neg c1, if_neg c2]
  simp only [catamaranlaw03_BitsBoth.j0, Bool.not_true, q_Or.f, q_Minus.f]
  rw [if_neg (by decide), if_pos ha, if_pos hb]
  simp only [Option.bind_some]
  rw [if_pos ha, if_pos hb]
  simp only [Option.bind_some]
  by_cases hc : ck2S n a b = 0
  · have e1 : orS n a b = (List.zipWith (Go.bits .or .u8) a b, 0) := by unfold orS; rw [if_pos hc]
    have e2 : minusS n a b = (List.zipWith (Go.bits .andNot .u8) a b, 0) := by unfold minusS; rw [if_pos hc]
    obtain ⟨ox, cx, ix⟩ := zip_ok (Go.bits .or .u8) (· || ·) rfl (fun x y hx hy j _ => or_bit hx hy j) (fun x y hx hy => or_in hx hy) ha hb hc
    obtain ⟨oy, cy, iy⟩ := zip_ok (Go.bits .andNot .u8) (fun p q => p && !q) rfl (fun x y hx hy j hj => andNot_bit hx hy j hj) (fun x y hx hy => andNot_in hx hy) ha hb hc
    rw [e1, e2, if_pos rfl]
    generalize List.zipWith (Go.bits .or .u8) a b = X at ox cx ix
    generalize List.zipWith (Go.bits .andNot .u8) a b = Y at oy cy iy
    obtain ⟨ca, cb⟩ := ck2S_zero hc
    obtain ⟨n0, n1, lb, _⟩ := ckS_zero hb cb
    simp only [catamaranlaw03_BitsBoth.j1, q_Count.f]
    rw [if_neg (by decide), if_pos ox]
    simp only [Option.bind_some]
    rw [if_pos oy]
    simp only [Option.bind_some]
    rw [if_pos hb]
    simp only [Option.bind_some]
    have k1 : cntS n X = (((trk 0 X).length : Int), 0) := by unfold cntS; rw [if_pos cx]
    have k2 : cntS n Y = (((trk 0 Y).length : Int), 0) := by unfold cntS; rw [if_pos cy]
    have k3 : cntS n b = (((trk 0 b).length : Int), 0) := by unfold cntS; rw [if_pos cb]
    have hlen := trk_length b 0
    have hleny := trk_length Y 0
    have hly := (ckS_zero oy cy).2.2.1
    have hsum : (trk 0 X).length = (trk 0 Y).length + (trk 0 b).length := by
      obtain ⟨m, rfl⟩ := Int.eq_ofNat_of_zero_le (show 0 ≤ n by omega)
      rw [trk_of ox cx, trk_of oy cy, trk_of hb cb, List.length_map, List.length_map, List.length_map]
      have e := filter_split (fun (t : Nat) => inS a (t : Int)) (fun (t : Nat) => inS b (t : Int)) (List.range m)
      rw [show (fun (t : Nat) => inS X (t : Int)) = fun (t : Nat) => inS a (t : Int) || inS b (t : Int) from funext fun t => ix _, show (fun (t : Nat) => inS Y (t : Int)) = fun (t : Nat) => inS a (t : Int) && !inS b (t : Int) from funext fun t => iy _]
      exact e
    rw [k1, k2, k3, if_pos rfl, if_pos rfl, if_pos rfl]
    simp only []
    rw [wrap64_id (by omega) (by omega)]
    simp only [catamaranlaw03_BitsBoth.j2, q_Has.f]
    rw [if_neg (by simp; omega), if_pos ha]
    simp only [Option.bind_some]
    rw [if_pos hb]
    simp only [Option.bind_some]
    rw [if_pos ox]
    simp only [Option.bind_some]
    rw [if_pos oy]
    simp only [Option.bind_some]
    have hh : ∀ s, ckS n s = 0 → hasS n s t = if t < 0 ∨ t ≥ n then (false, 2) else (inS s t, 0) := fun s hs => by unfold hasS; rw [if_pos hs]
    rw [hh a ca, hh b cb, hh X cx, hh Y cy, ix, iy, if_pos trivial]
    by_cases ht : t < 0 ∨ t ≥ n
    · simp [ht]
    · simp only [ht, if_false]
      cases inS a t <;> cases inS b t <;> rfl
  · have e1 : orS n a b = ([], ck2S n a b) := by unfold orS; rw [if_neg hc]
    have e2 : minusS n a b = ([], ck2S n a b) := by unfold minusS; rw [if_neg hc]
    rw [e1, e2, if_neg hc]
    simp only [catamaranlaw03_BitsBoth.j1]
    rw [if_pos trivial, if_pos trivial, if_pos trivial, if_pos (by simp)]
    rfl
end Go.Proofs.Ytpbnppeodoflcaa.Pure

/- The iterator bits.tracks (over the bytes of a set), bits.List and bits.Next. -/
import Derived.Test.YtpbnppeodoflcaaE2
import Derived.RangeFuncNested
import Derived.RangeFuncBound
import Derived.RangeFuncCalls
import Derived.RangeFuncLeaves
import Derived.Shelf.Abstract
import Derived.Shelf.RegionOpen
import Derived.OwnWalkIn
import Derived.TacticsInMore
import Derived.LoopNIn
import Derived.LoopIn
namespace Go.Proofs.Ytpbnppeodoflcaa.E
open Go.RowKit Go.Shelf Go.Proofs.YtpbnppeodoflcaaW.PrintWords Go.Proofs.YtpbnppeodoflcaaW.PrintLast Go.Proofs.YtpbnppeodoflcaaW.PrintMore Go.Proofs.Ytpbnppeodoflcaa.K
attribute [local go_sem] Oper.semAt_some
set_option linter.unusedVariables false
set_option linter.unusedSimpArgs false

/-- How many noughts a byte ends with. -/
def tzTab : ByteArray := ⟨#[8, 0, 1, 0, 2, 0, 1, 0, 3, 0, 1, 0, 2, 0, 1, 0, 4, 0, 1, 0, 2, 0, 1, 0, 3, 0, 1, 0, 2, 0, 1, 0, 5, 0, 1, 0, 2, 0, 1, 0, 3, 0, 1, 0, 2, 0, 1, 0, 4, 0, 1, 0, 2, 0, 1, 0, 3, 0, 1, 0, 2, 0, 1, 0, 6, 0, 1, 0, 2, 0, 1, 0, 3, 0, 1, 0, 2, 0, 1, 0, 4, 0, 1, 0, 2, 0, 1, 0, 3, 0, 1, 0, 2, 0, 1, 0, 5, 0, 1, 0, 2, 0, 1, 0, 3, 0, 1, 0, 2, 0, 1, 0, 4, 0, 1, 0, 2, 0, 1, 0, 3, 0, 1, 0, 2, 0, 1, 0, 7, 0, 1, 0, 2, 0, 1, 0, 3, 0, 1, 0, 2, 0, 1, 0, 4, 0, 1, 0, 2, 0, 1, 0, 3, 0, 1, 0, 2, 0, 1, 0, 5, 0, 1, 0, 2, 0, 1, 0, 3, 0, 1, 0, 2, 0, 1, 0, 4, 0, 1, 0, 2, 0, 1, 0, 3, 0, 1, 0, 2, 0, 1, 0, 6, 0, 1, 0, 2, 0, 1, 0, 3, 0, 1, 0, 2, 0, 1, 0, 4, 0, 1, 0, 2, 0, 1, 0, 3, 0, 1, 0, 2, 0, 1, 0, 5, 0, 1, 0, 2, 0, 1, 0, 3, 0, 1, 0, 2, 0, 1, 0, 4, 0, 1, 0, 2, 0, 1, 0, 3, 0, 1, 0, 2, 0, 1, 0]⟩
def tz (c : Int) : Int := bt tzTab c
theorem tz_range : ∀ c : Nat, c < 256 → 0 ≤ tz c ∧ tz c ≤ 8 := by decide +kernel
set_option maxHeartbeats 8000000 in
set_option maxRecDepth 100000 in
theorem tz_calls (a0 : Int) (w : World) (h0 : 0 ≤ a0) (h1 : a0 < 256) :
    Calls Try.prog 150 #[.int .u8 a0] w fun e w' => e = .returned (.int .i64 (tz a0)) ∧ w = w' := by
  have hr : 0 ≤ tz a0 ∧ tz a0 ≤ 8 := by
    obtain ⟨n, rfl⟩ := Int.eq_ofNat_of_zero_le h0
    exact tz_range n (by omega)
  have c2b0 : decide (0 ≤ a0) = true := decide_eq_true h0
  have c3b0 : decide (a0 < 256) = true := decide_eq_true h1
  have hx4 : ∀ h : a0.toNat < tzTab.size, ((tzTab[a0.toNat]'h).toNat : Int) = tz a0 := bt_at tzTab a0
  unfold tzTab at hx4
  have p4 := eq_true h0
  have q4 := eq_true h1
  obtain ⟨t, ht⟩ : ∃ t, tz a0 = t := ⟨_, rfl⟩
  simp only [ht] at hr hx4
  rw [ht]
  clear ht h0 h1
  have hr1 := hr.1
  have hr2 := hr.2
  clear hr
  go_enter Try.func150, Try.ntmps150
  go_wp2
  go_ret
  exact ⟨by first | rfl | (simp; done) | (simp [*]; done), rfl⟩

/-- The bits of a byte, rising. -/
def bl (c : Int) : List Int := List.map (fun (j : Nat) => (j : Int)) (List.filter (fun (j : Nat) => c.toNat / 2 ^ j % 2 == 1) (List.range 8))
/-- The tracks of pages, from a number on. -/
def trk : Int → List Int → List Int
  | _, [] => []
  | o, c :: s => (bl c).map (o + ·) ++ trk (o + 8) s
theorem trk_snoc (s : List Int) (c : Int) : ∀ o, trk o (s ++ [c]) = trk o s ++ (bl c).map (o + 8 * s.length + ·) := by
  induction s with
  | nil => intro o; simp [trk]
  | cons d s ih =>
    intro o
    simp only [List.cons_append, trk, ih, List.append_assoc, List.length_cons]
    congr 3
    funext x
    omega
theorem bl_step : ∀ c : Nat, c < 256 → 0 < c → bl c = tz c :: bl (Go.bits .and .u8 c (c - 1)) ∧ 0 ≤ Go.bits .and .u8 (c : Int) (c - 1) ∧ Go.bits .and .u8 (c : Int) (c - 1) < c ∧ tz c ≤ 7 := by decide +kernel

theorem trk_take (l : List Int) (k : Nat) (hk : k < l.length) : trk 0 (l.take (k + 1)) = trk 0 (l.take k) ++ (bl (l.getD k 0)).map (8 * (k : Int) + ·) := by
  rw [List.take_succ_eq_append_getElem hk, trk_snoc, List.length_take, Nat.min_eq_left (by omega), List.getD_eq_getElem?_getD, List.getElem?_eq_getElem hk]
  simp
theorem trk_append (s t : List Int) : ∀ o, trk o (s ++ t) = trk o s ++ trk (o + 8 * s.length) t := by
  induction s with
  | nil => intro o; simp [trk]
  | cons d s ih =>
    intro o
    simp only [List.cons_append, trk, ih, List.append_assoc, List.length_cons]
    congr 3
    omega
theorem trk_prefix (l : List Int) (k : Nat) : trk 0 (l.take k) <+: trk 0 l := by
  conv => rhs; rw [← List.take_append_drop k l]
  rw [trk_append]
  exact List.prefix_append _ _
theorem trk_len (l : List Int) : ∀ o, (trk o l).length ≤ 8 * l.length := by
  induction l with
  | nil => intro o; simp [trk]
  | cons c l ih =>
    intro o
    have h1 := ih (o + 8)
    have h2 : (bl c).length ≤ 8 := by
      unfold bl
      rw [List.length_map]
      exact List.length_filter_le _ _
    simp only [trk, List.length_append, List.length_map, List.length_cons]
    omega

set_option maxRecDepth 100000 in
set_option maxHeartbeats 4000000 in
/-- The iterator's own function: for every loop body that keeps what lay below n₀. -/
theorem tracks1_in (n : Nat) (hn : 1 ≤ n) (lp Bs n₀ : Nat) (ad : Addr) (cap : Nat) (l : List Int) (hreach : l.length ≤ 17592186044415) (hb : ad.block < n₀) (hlb : ∀ x ∈ l, 0 ≤ x ∧ x < 256) (J Jx : List Int → World → Prop)
    (hY : ∀ pre x W, J pre W → pre.length < 8 * l.length → YieldAt Fence.wide (n - 1) Try.prog lp #[.int .i64 x] W fun e W' =>
      (e = .returned (.bool true) ∧ J (pre ++ [x]) W' ∧ Below n₀ W W') ∨ (e = .returned (.bool false) ∧ Jx (pre ++ [x]) W'))
    (W : World) (hBs : W.cell? ⟨Bs, 0, none⟩ = some (.slice (some ad) l.length cap)) (hc : ∀ j, j < l.length → W.cell? (ad.add j) = some (.int .u8 (l.getD j 0))) (h0 : J [] W) :
    CallsIn Fence.wide n Try.prog 149 #[.func (.yield lp) #[] #[], .pointer (some ⟨Bs, 0, none⟩)] W fun e W' => (∃ v, e = .returned v) ∧
      ((∃ ys, ys = trk 0 l ∧ J ys W') ∨ (∃ pre, pre <+: trk 0 l ∧ Jx pre W')) := by
  refine callsIn_of_wp Try.func149 rfl trivial ?_ rfl
  simp only [Try.ntmps149, List.size_toArray, List.length_cons, List.length_nil, Nat.reduceAdd, Nat.reduceSub, Array.replicate_succ, Array.replicate_zero, List.push_toArray, List.append_toArray, List.nil_append, List.cons_append]
  have HC := Aside0.mk hc
  have HL := Aside0.mk hlb
  clear hc hlb
  gi_wp2
  gi_loopw [3, 4, 7] (fun _ _ i wr => ∃ k : Nat, k ≤ l.length ∧ i = .int .i64 k ∧ J (trk 0 (l.take k)) wr ∧ Aside0 (Below n₀ W wr))
    (fun _ _ i _ => l.length - (intOf i).toNat)
  case atStart => exact ⟨0, Nat.zero_le _, rfl, by simpa [trk] using h0, ⟨Below.refl _ _⟩⟩
  case round =>
    obtain ⟨k, hk, rfl, hJs, hnx⟩ := hrel
    by_cases hlt : k < l.length
    · have hcx := ((hnx.out.cell (p := ad.add k) (by rw [add_block]; exact hb)).trans (HC.out k hlt))
      have hcr := HL.out _ (show l.getD k 0 ∈ l by rw [List.getD_eq_getElem?_getD, List.getElem?_eq_getElem hlt]; exact List.getElem_mem hlt)
      obtain ⟨cc, hcc⟩ : ∃ cc : Int, cc = l.getD k 0 := ⟨_, rfl⟩
      have HCC := Aside0.mk hcc
      rw [← hcc] at hcx hcr
      clear hcc
      obtain ⟨hc0, hc1⟩ := hcr
      gi_wp2
      obtain ⟨wo, rfl⟩ : ∃ wo : World, wo = wr := ⟨_, rfl⟩
      gi_loopw [4] (fun c wr => ∃ (c' : Int) (pre : List Int), c = .int .u8 c' ∧ 0 ≤ c' ∧ c' < 256 ∧ Aside0 (pre ++ (bl c').map (8 * (k : Int) + ·) = trk 0 (l.take (k + 1))) ∧ J pre wr ∧ Aside0 (Below n₀ W wr))
        (fun c _ => (intOf c).toNat)
      case atStart => exact ⟨cc, _, rfl, hc0, hc1, ⟨by rw [trk_take l k hlt, HCC.out]⟩, hJs, hnx⟩
      case round =>
        obtain ⟨c', pre, rfl, hd0, hd1, hpre, hJ2, hn2⟩ := hrel
        by_cases hz : c' = 0
        · subst hz
          have hp2 : pre = trk 0 (l.take (k + 1)) := by have := hpre.out; rwa [show bl 0 = [] from by decide +kernel, List.map_nil, List.append_nil] at this
          subst hp2
          gi_wp2
          go_roundw
          case rel => exact ⟨k + 1, by omega, by simp, hJ2, hn2⟩
          case measure => simp [intOf]; omega
        · obtain ⟨tt, htt⟩ : ∃ tt, tz c' = tt := ⟨_, rfl⟩
          have hst := bl_step c'.toNat (by omega) (by omega)
          rw [Int.toNat_of_nonneg hd0, htt] at hst
          obtain ⟨hs1, hs2, hs3, hs4⟩ := hst
          have hs5 := tz_range c'.toNat (by omega)
          rw [Int.toNat_of_nonneg hd0, htt] at hs5
          have hs6 := hs5.1
          clear hs5
          have HS1 := Aside0.mk hs1
          clear hs1
          have hnz : (c' != 0) = true := bne_iff_ne.2 hz
          have HT := Aside0.mk htt
          clear htt
          have hplen : pre.length < 8 * l.length := by
            have h1 := congrArg List.length hpre.out
            have h2 := trk_len (l.take (k + 1)) 0
            rw [List.length_append, List.length_map, HS1.out, List.length_cons] at h1
            rw [List.length_take] at h2
            omega
          obtain ⟨fn, tmps, assign, body, hy, hR⟩ := hY pre ((k : Int) * 8 + tt) wr hJ2 hplen
          gi_wp2_with (refine ⟨trivial, ?_⟩; gi_at_call 150; refine (callsIn_wide.2 (tz_calls c' _ hd0 hd1)).mono ?_; rintro e w3 ⟨rfl, rfl⟩; rw [HT.out])
          refine hR.mono ?_
          rintro e W3 (⟨rfl, hJ3, hk3⟩ | ⟨rfl, hJx3⟩)
          · gi_wp2
            go_roundw
            case rel => exact ⟨_, _, rfl, hs2, by omega, ⟨by rw [← hpre.out, HS1.out, List.map_cons, List.append_assoc, List.singleton_append, Int.mul_comm]⟩, hJ3, ⟨hn2.out.trans hk3⟩⟩
            case measure => simp [intOf]; omega
          · gi_wp2
            refine bodyPost_ret (results_none rfl _ _ _) rfl ?_
            exact ⟨⟨_, rfl⟩, .inr ⟨_, by
              refine List.IsPrefix.trans ?_ (trk_prefix l (k + 1))
              rw [← hpre.out, HS1.out, List.map_cons, Int.mul_comm]
              exact ⟨(bl (Go.bits .and .u8 c' (c' - 1))).map (8 * (k : Int) + ·), by rw [List.append_assoc, List.singleton_append]⟩, hJx3⟩⟩
    · obtain rfl : k = l.length := by omega
      gi_wp2
      go_end0
      exact ⟨⟨_, rfl⟩, .inl ⟨_, rfl, by rw [List.take_length] at hJs; exact hJs⟩⟩
end Go.Proofs.Ytpbnppeodoflcaa.E

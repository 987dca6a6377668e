/- bits.List and bits.Next. -/
import Derived.Test.YtpbnppeodoflcaaE3
import Derived.Test.YtpbnppeodoflcaaE4
import Derived.Test.YtpbnppeodoflcaaPHsx1
import Derived.Maps.AppendAt
namespace Go.Proofs.Ytpbnppeodoflcaa.E
open Go.RowKit Go.Shelf Go.Proofs.YtpbnppeodoflcaaW.PrintWords Go.Proofs.YtpbnppeodoflcaaW.PrintLast Go.Proofs.YtpbnppeodoflcaaW.PrintMore Go.Proofs.Ytpbnppeodoflcaa.K
attribute [local go_sem] Oper.semAt_some
set_option linter.unusedVariables false
set_option linter.unusedSimpArgs false

set_option maxHeartbeats 1000000 in
set_option maxRecDepth 100000 in
theorem tracks_calls (A : Option Addr) (n c : Nat) (w : World) :
    Calls Try.prog 83 #[.slice A n c] w fun e w' => e = .returned (.func (.func 149) #[] #[.pointer (some ⟨w.heap.size, 0, none⟩)]) ∧ w.alloc (.cells #[.slice A n c] 24) = w' := by
  go_enter Try.func83, Try.ntmps83
  go_wp2
  go_ret
  exact ⟨rfl, rfl⟩

set_option maxRecDepth 100000 in
set_option maxHeartbeats 1000000 in
theorem tracks1_nil_in (n : Nat) (lp Bs c : Nat) (A : Option Addr) (J : List Int → World → Prop) (W : World) (hBs : W.cell? ⟨Bs, 0, none⟩ = some (.slice A 0 c)) (h0 : J [] W) :
    CallsIn Fence.wide n Try.prog 149 #[.func (.yield lp) #[] #[], .pointer (some ⟨Bs, 0, none⟩)] W fun e W' => (∃ v, e = .returned v) ∧ J [] W' := by
  refine callsIn_of_wp Try.func149 rfl trivial ?_ rfl
  simp only [Try.ntmps149, List.size_toArray, List.length_cons, List.length_nil, Nat.reduceAdd, Nat.reduceSub, Array.replicate_succ, Array.replicate_zero, List.push_toArray, List.append_toArray, List.nil_append, List.cons_append]
  gi_wp2
  gi_loopw [3, 4, 7] (fun _ _ i wr => i = .int .i64 0 ∧ J [] wr) (fun _ _ _ _ => 0)
  case atStart => exact ⟨rfl, h0⟩
  case round =>
    obtain ⟨rfl, hJs⟩ := hrel
    gi_wp2
    go_end0
    exact ⟨⟨_, rfl⟩, hJs⟩

/-- What bits.tracks hands back: all of a set's tracks, rising; or the first of them. -/
theorem tracks_stops (n : Nat) (hn : 1 ≤ n) (Bs n₀ : Nat) (A : Option Addr) (c : Nat) (l : List Int) (hreach : l.length ≤ 17592186044415) (hlb : ∀ x ∈ l, 0 ≤ x ∧ x < 256) (w0 w : World) (hb : Below w0.heap.size w0 w) (hn0 : n₀ = w0.heap.size) (hR : Kd.C (Kd.int .u8) w0 A l.length l)
    (hBs : w.cell? ⟨Bs, 0, none⟩ = some (.slice A l.length c)) :
    SeqStopsK Fence.wide n Try.prog 149 #[.pointer (some ⟨Bs, 0, none⟩)] (fun x : Int => #[Value.int .i64 x]) (Below n₀) (fun ys => ys = trk 0 l) (fun pre => pre <+: trk 0 l) (8 * l.length) w := fun lp J Jx W hW _ _ hY h0 => by
  have hc' := (hW.cell (p := ⟨Bs, 0, none⟩) (World.block_lt_of_cell? w _ hBs)).trans hBs
  rcases Nat.eq_zero_or_pos l.length with hz | hp
  · obtain rfl : l = [] := List.eq_nil_of_length_eq_zero hz
    exact (tracks1_nil_in n lp Bs c A J W hc' h0).mono fun e W' ⟨he, hj⟩ => ⟨he, .inl ⟨_, rfl, hj⟩⟩
  · have hri := (Kd.reads_of_C (d := (0 : Int)) hR : ReadsOf (Value.int .u8) 0 w0 A l.length l)
    obtain ⟨ad, rfl, hcell⟩ := hri.2.2 hp
    subst hn0
    have hblk : ad.block < w0.heap.size := by
      have := World.block_lt_of_cell? w0 _ (hcell 0 hp)
      rwa [add_block] at this
    exact tracks1_in n hn lp Bs w0.heap.size ad c l hreach hblk hlb J Jx hY W hc' (fun j hj => (below_then hb hb.size hW).cell (p := ad.add j) (by rw [add_block]; exact hblk) |>.trans (hcell j hj)) h0

set_option maxRecDepth 100000 in
set_option maxHeartbeats 2000000 in
/-- slices.AppendSeq(nil, seq), seq a function with what it captured. -/
theorem append_seq (n : Nat) (hn : 3 ≤ n) (gf : Nat) (lb : Array Value) (eg : ∀ args w, (callFunc gf args).run Try.prog w = .ok (.enter gf args) w) (xs : List Int) (N n₀ : Nat) (hlen : xs.length ≤ maxLen) (hN : N * 8 ≤ 140737488355328) (w : World) (hn₀ : n₀ ≤ w.heap.size)
    (hseq : SeqStopsK Fence.wide (n - 1) Try.prog gf lb (fun x : Int => #[Value.int .i64 x]) (Below n₀) (fun ys => ys = xs) (fun pre => pre <+: xs) N w) :
    CallsIn Fence.wide n Try.prog 148 #[.slice none 0 0, .func (.func gf) #[] lb] w fun e W' => ∃ v, e = .returned v ∧ W'.ownsRow w.heap.size 3 1 v xs.length (xs.map (Value.int .i64)) ∧ Below w.heap.size w W' := by
  have h1 : 1 ≤ n := by omega
  obtain ⟨i0, hi, hz0, hz1, hz2⟩ := info_parts info3
  refine callsIn_of_wp_marks Try.func148 rfl trivial ?_ rfl
  simp only [Try.ntmps148, List.size_toArray, List.length_cons, List.length_nil, Nat.reduceAdd, Nat.reduceSub, Array.replicate_succ, Array.replicate_zero, List.push_toArray, List.append_toArray, List.nil_append, List.cons_append]
  gi_wp2
  have bO := Boxed.new w 37 (.slice none 0 0)
  have hB0 : Below w.heap.size w (w.alloc (.cells #[.slice none 0 0] 37)) := (Below.refl _ w).alloc (Nat.le_refl _) _
  refine wpIn_rangeFunc_ownG rfl h1 (gf := gf) (lb := lb) rfl trivial eg
    hseq belowK_t (belowK_b (by simp; omega)) hB0 (fun _ => rfl)
    (fun pre W => (∃ v, Boxed W w.heap.size 37 v ∧ W.ownsRow w.heap.size 3 1 v pre.length (pre.map (Value.int .i64)) ∧ True) ∧ Below w.heap.size w W)
    (fun _ _ _ => False)
    (OwnFrom.and (Own.from (holdsRow_own w.heap.size w.heap.size 37 3 1 (fun pre : List Int => pre.length) (fun pre : List Int => pre.map (Value.int .i64)) (fun pre v => True)) _) (ownFrom_below (Nat.le_refl _) (by simp)))
    (fun _ _ _ _ _ hs _ _ => hs)
    ⟨⟨_, bO, World.ownsRow_nil _ _ _ _, trivial⟩, hB0⟩
    (fun x => { tmps := #[.slice none 0 0, .func (.func gf) #[] lb, .pointer (some ⟨w.heap.size, 0, none⟩), undef, .slice none 0 0, .int .i64 x, .func (.func gf) #[] lb, .int .i64 x, undef, undef, undef, undef, undef], defers := [] }) ?assign ?body ?done ?stop
  case assign =>
    intro l x W K hK
    gi_wp2
    exact hK
  case body =>
    rintro l pre x W ⟨⟨v, hv, hrow, hnil⟩, hB⟩ hlt
    have hc := hv.cell
    clear hnil
    gi_wp2_with (gi_at_builtin; refine wpListIn_append_own _ rfl _ _ 37 rfl w.heap.size 3 i0 (.int .i64 0) 1 8 Try.underlying37 hi hz0 hz1 hz2 rfl (by decide) _ _ _ rfl (hrow.alloc _) ⟨W.heap.size, 0, none⟩ 1 1 [.int .i64 x] rfl rfl (cell_one_new _ _ _) (by simp [Value.oneCell']) (by unfold maxLen; omega) (by omega) (by have := hB.size; simp; omega) ?_; intro v' w1 hown' hgrow _; obtain ⟨g', cap', rfl⟩ := ownsRow_succ hown'; obtain ⟨hv1, hv2, hr2, hk2, hb2⟩ := hv.appended (by decide) hrow hB.size (Nat.le_refl _) hown' hgrow; have hc1 := hv1.cell; have hf1 := hv1.frozen)
    exact ⟨hk2.from _, hb2.mono hn₀, ⟨_, hv2, by simpa using hr2, trivial⟩, hB.trans hb2⟩
  case done =>
    rintro D ys W hD rfl ⟨⟨v, hv, hrow, hnil⟩, hB⟩ hK
    have hc := hv.cell
    gi_wp2
    refine ⟨by simp, .inl ⟨_, _, rfl, run_takeDeferred hK, ?_⟩⟩
    exact ⟨_, results_tmp rfl _ _ _, v, rfl, ownsRow_putObj hrow _ hK rfl, hB.trans (belowK_b (w := w) (Nat.le_refl _) W D _ _ (by simp at hD; omega) hK rfl rfl)⟩
  case stop =>
    rintro D c pre W _ _ h _
    exact h.elim

set_option maxRecDepth 100000 in
set_option maxHeartbeats 2000000 in
theorem collect (n : Nat) (hn : 4 ≤ n) (gf : Nat) (lb : Array Value) (eg : ∀ args w, (callFunc gf args).run Try.prog w = .ok (.enter gf args) w) (xs : List Int) (N n₀ : Nat) (hlen : xs.length ≤ maxLen) (hN : N * 8 ≤ 140737488355328) (w : World) (hn₀ : n₀ ≤ w.heap.size)
    (hseq : SeqStopsK Fence.wide (n - 1 - 1) Try.prog gf lb (fun x : Int => #[Value.int .i64 x]) (Below n₀) (fun ys => ys = xs) (fun pre => pre <+: xs) N w) :
    Calls Try.prog 82 #[.func (.func gf) #[] lb] w fun e W' => ∃ v, e = .returned v ∧ W'.ownsRow w.heap.size 3 1 v xs.length (xs.map (Value.int .i64)) ∧ Below w.heap.size w W' := by
  have H := Aside0.mk (callsIn_wide.1 (append_seq (n - 1) (by omega) gf lb eg xs N n₀ hlen hN w hn₀ hseq))
  clear eg hseq
  go_enter Try.func82, Try.ntmps82
  go_wp2_with (go_at_call 148; refine H.out.mono ?_; rintro e w1 ⟨v, rfl, hv, hb⟩; (have HV := Aside0.mk hv); (have HB := Aside0.mk hb); clear hv hb)
  go_ret
  exact ⟨v, rfl, HV.out, HB.out⟩

/-- All of a list of numbers are bytes. -/
def okB (l : List Int) : Bool := l.all fun x => decide (0 ≤ x ∧ x < 256)
theorem okB_mem {l : List Int} (h : okB l = true) : ∀ x ∈ l, 0 ≤ x ∧ x < 256 := fun x hx => of_decide_eq_true (List.all_eq_true.1 h x hx)
def bits_List.f (a0 : Int) (l : List Int) : Option (List Int × Int) := if okB l = true then some (if ckS a0 l = 0 then (trk 0 l, 0) else ([], ckS a0 l)) else none
theorem ckS_len {a0 : Int} {l : List Int} (h : ckS a0 l = 0) : l.length ≤ 2 ∧ 1 ≤ a0 ∧ a0 ≤ 16 := by
  unfold ckS at h
  split at h
  · rename_i hn
    split at h
    · rename_i hs
      unfold okS at hs
      have := (Bool.and_eq_true_iff.1 hs).1
      have h2 := allB_len a0
      have h3 : l.length = (allB a0).length := by simpa using this
      omega
    · simp at h
  · simp at h

set_option maxRecDepth 100000 in
set_option maxHeartbeats 2000000 in
theorem bits_List.calls (a0 : Int) (A1 : Option Addr) (c1 : Nat) (l1 : List Int) (r1 : List Int) (r2 : Int) (w : World) (hr1 : Kd.C (Kd.int .u8) w A1 l1.length l1) (hc1 : l1.length ≤ c1) (h : bits_List.f a0 l1 = some (r1, r2)) :
    Calls Try.prog 19 #[.int .i64 a0, .slice A1 l1.length c1] w fun e w' => ∃ v0_ : Value, e = .returned (.tuple #[v0_, .int .i64 r2]) ∧ Kd.R (Kd.int .i64) 3 w' w.heap.size (fun _ => True) v0_ r1 ∧ Below w.heap.size w w' := by
  unfold bits_List.f at h
  by_cases hb : okB l1 = true
  · rw [if_pos hb] at h
    obtain ⟨ck, hck⟩ : ∃ ck, ckS a0 l1 = ck := ⟨_, rfl⟩
    have HC := Aside0.mk (bits_Check.calls a0 A1 c1 l1 ck w hr1 hc1 (by rw [← hck]; rfl))
    have HR := Aside0.mk hr1
    clear hr1
    by_cases hz : ck = 0
    · subst hz
      rw [if_pos hck] at h
      simp only [Option.some.injEq, Prod.mk.injEq] at h
      obtain ⟨rfl, rfl⟩ := h
      have hlen := (ckS_len hck).1
      have HT : Aside0 (∀ (w1 : World), Below w.heap.size w w1 → Calls Try.prog 82 #[.func (.func 149) #[] #[.pointer (some ⟨w1.heap.size, 0, none⟩)]] (w1.alloc (.cells #[.slice A1 l1.length c1] 24)) fun e W' => ∃ v, e = .returned v ∧ W'.ownsRow (w1.heap.size + 1) 3 1 v (trk 0 l1).length ((trk 0 l1).map (Value.int .i64)) ∧ Below w.heap.size w W') := ⟨fun w1 hw1 => by
        have hbe : Below w.heap.size w (w1.alloc (.cells #[.slice A1 l1.length c1] 24)) := hw1.alloc hw1.size _
        have hlen8 := trk_len l1 0
        refine (collect 4 (by omega) 149 _ (enters_of Try.func149 (by kernel_rfl) rfl) (trk 0 l1) (8 * l1.length) w.heap.size (by unfold maxLen; omega) (by omega) _ (by have := hw1.size; simp; omega)
          (tracks_stops 2 (by omega) w1.heap.size w.heap.size A1 c1 l1 (by omega) (okB_mem hb) w _ hbe rfl HR.out (by have := cell_one_new w1 (.slice A1 l1.length c1) 24 0 _ rfl; rwa [add_none] at this))).mono ?_
        rintro e W' ⟨v, rfl, ho, hB⟩
        rw [World.size_alloc] at ho
        exact ⟨v, rfl, ho, below_then hbe hbe.size hB⟩⟩
      clear hck hb hlen
      go_enter Try.func19, Try.ntmps19
      go_wp2_with (first | (go_at_call 62; refine HC.out.mono ?_; rintro e w1 ⟨rfl, hb1⟩; (have HB1 := Aside0.mk hb1); clear hb1) | (go_at_call 83; refine (tracks_calls _ _ _ _).mono ?_; rintro e w2 ⟨rfl, rfl⟩) | (go_at_call 82; refine (HT.out w1 HB1.out).mono ?_; rintro e w3 ⟨v, rfl, hv, hB⟩; (have HV := Aside0.mk hv); (have HB := Aside0.mk hB); clear hv hB))
      go_ret2
      exact ⟨v, rfl, Kd.R_of_own (own_weaken HV.out (by have := HB1.out.size; omega)) (fun _ _ => trivial), HB.out⟩
    · rw [if_neg (by rw [hck]; exact hz), hck] at h
      simp only [Option.some.injEq, Prod.mk.injEq] at h
      obtain ⟨rfl, rfl⟩ := h
      have hnz : (ck != 0) = true := bne_iff_ne.2 hz
      clear hck hb hz
      go_enter Try.func19, Try.ntmps19
      go_wp2_with (first | (go_at_call 62; refine HC.out.mono ?_; rintro e w1 ⟨rfl, hb1⟩; (have HB1 := Aside0.mk hb1); clear hb1))
      go_ret2
      exact ⟨_, rfl, Kd.R_nil _ _ _ _ _, HB1.out⟩
  · rw [if_neg hb] at h
    exact absurd h (by simp)
end Go.Proofs.Ytpbnppeodoflcaa.E

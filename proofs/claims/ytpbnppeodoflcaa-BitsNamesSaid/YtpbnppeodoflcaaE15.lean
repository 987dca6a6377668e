/- bits.Of: the set of a list of tracks. -/
import Derived.Test.YtpbnppeodoflcaaE14
namespace Go.Proofs.Ytpbnppeodoflcaa.E
open Go.RowKit Go.Proofs.YtpbnppeodoflcaaW.PrintWords Go.Proofs.YtpbnppeodoflcaaW.PrintLast Go.Proofs.YtpbnppeodoflcaaW.PrintMore Go.Proofs.Ytpbnppeodoflcaa.K
set_option linter.unusedVariables false
set_option linter.unusedSimpArgs false

def addB (s : List Int) (t : Int) : List Int := s.set (t / 8).toNat (Go.bits .or .u8 (rd s (t / 8)) (shl .u8 1 (t % 8)))
def setF (s : List Int) (l : List Int) : List Int := l.foldl addB s
theorem addB_length (s : List Int) (t : Int) : (addB s t).length = s.length := by simp [addB]
theorem setF_length (l : List Int) : ∀ s : List Int, (setF s l).length = s.length := by
  induction l with
  | nil => intro s; rfl
  | cons t l ih => intro s; show (setF (addB s t) l).length = _; rw [ih, addB_length]
theorem setF_snoc (s l : List Int) (t : Int) : setF s (l ++ [t]) = addB (setF s l) t := by simp [setF]
theorem allB_length (n : Int) : (allB n).length = if n ≤ 8 then 1 else 2 := by unfold allB; split <;> rfl
def ofS (n : Int) (l : List Int) : List Int × Int := if 1 ≤ n ∧ n ≤ 16 then (if l.any (outB n) = true then ([], 2) else (setF (List.replicate (if n ≤ 8 then 1 else 2) 0) l, 0)) else ([], 2)

set_option maxHeartbeats 8000000 in
set_option maxRecDepth 100000 in
theorem of_far (n : Int) (A1 : Option Addr) (c1 : Nat) (l1 : List Int) (w : World) (hn : ¬ (1 ≤ n ∧ n ≤ 16)) :
    Calls Try.prog 38 #[.int .i64 n, .slice A1 l1.length c1] w fun e w' => e = .returned (.tuple #[.slice none 0 0, .int .i64 2]) ∧ Below w.heap.size w w' := by
  have HB0 := Aside0.mk ((Below.refl w.heap.size w).alloc (Nat.le_refl _) (.cells #[.int .i64 n] 3))
  have hc : (w.alloc (.cells #[.int .i64 n] 3)).cell? ⟨w.heap.size, 0, none⟩ = some (.int .i64 n) := (blk_cell (heap_alloc_new w (.cells #[.int .i64 n] 3)) 0).trans rfl
  go_enter Try.func38, Try.ntmps38
  go_wp2_with (first | (go_at_call 61; refine (all_no n hn _).mono ?_; rintro e w1 ⟨rfl, rfl⟩))
  go_ret2
  exact ⟨rfl, HB0.out⟩
set_option maxHeartbeats 8000000 in
set_option maxRecDepth 100000 in
theorem of_out (n : Int) (A1 : Option Addr) (c1 : Nat) (l1 : List Int) (w : World) (hr1 : Kd.C (Kd.int .i64) w A1 l1.length l1) (hc1 : l1.length ≤ c1) (hm : l1.length ≤ 1000) (hn : 1 ≤ n ∧ n ≤ 16) (ha : l1.any (outB n) = true) :
    Calls Try.prog 38 #[.int .i64 n, .slice A1 l1.length c1] w fun e w' => e = .returned (.tuple #[.slice none 0 0, .int .i64 2]) ∧ Below w.heap.size w w' := by
  have HB0 := Aside0.mk ((Below.refl w.heap.size w).alloc (Nat.le_refl _) (.cells #[.int .i64 n] 3))
  have hc : (w.alloc (.cells #[.int .i64 n] 3)).cell? ⟨w.heap.size, 0, none⟩ = some (.int .i64 n) := (blk_cell (heap_alloc_new w (.cells #[.int .i64 n] 3)) 0).trans rfl
  have HC0 := Aside0.mk hc
  have HR := Aside0.mk (Kd.C_below hr1 HB0.out)
  have hmf : ∀ (fn : Fn) (first cap : Array Value) (w : World), (Instr.makeFunc fn first cap).run Try.prog w = .ok (.func fn first cap) w := fun _ _ _ _ => rfl
  clear hr1
  go_enter Try.func38, Try.ntmps38
  go_wp2_with (first | (go_at_call 61; refine (bits_All.calls n (allB n) 0 _ (by unfold bits_All.f; rw [if_pos hn])).mono ?_; rintro e w1 ⟨v0_, rfl, hr, hb⟩; (have HB := Aside0.mk (below_then HB0.out HB0.out.size hb)); (have HC1 := Aside0.mk (pw_cell_below hb HC0.out)); (have HR1 := Aside0.mk (Kd.C_below HR.out hb)); clear hr hb) | (go_at_call 100; refine (contains_of n A1 c1 l1 w.heap.size w1 HR1.out hc1 hm HC1.out).mono ?_; rw [ha]; rintro e w2 ⟨rfl, ⟨nd, rfl⟩⟩))
  go_ret2
  exact ⟨rfl, pw_below_drewN HB.out _⟩
theorem rd_in {n : Int} {l : List Int} (ha : l.any (outB n) = false) {x : Int} (h0 : 0 ≤ x) (h1 : x < (l.length : Int)) : 0 ≤ rd l x ∧ rd l x < n := by
  obtain ⟨i, rfl⟩ := Int.eq_ofNat_of_zero_le h0
  have hm : rd l (i : Int) ∈ l := by
    unfold rd
    rw [Int.toNat_natCast, List.getD_eq_getElem?_getD, List.getElem?_eq_getElem (by omega)]
    exact List.getElem_mem _
  have := List.any_eq_false.1 ha _ hm
  simp [outB] at this
  omega
theorem take_rd {l : List Int} {x : Int} (h0 : 0 ≤ x) (h1 : x < (l.length : Int)) : l.take (x + 1).toNat = l.take x.toNat ++ [rd l x] := by
  obtain ⟨i, rfl⟩ := Int.eq_ofNat_of_zero_le h0
  rw [show ((i : Int) + 1).toNat = i + 1 from by omega, Int.toNat_natCast, List.take_add_one]
  unfold rd
  rw [Int.toNat_natCast, List.getD_eq_getElem?_getD, List.getElem?_eq_getElem (by omega)]
  rfl
theorem bit_of (t : Int) (h0 : 0 ≤ t) (w : World) : Calls Try.prog 87 #[.int .i64 t] w fun e w' => e = .returned (.int .u8 (shl .u8 1 (t % 8))) ∧ Drawn0 w w' :=
  PHs.bits_bit.calls t _ w (by
    have e2 : t.tmod 8 = t % 8 := Int.tmod_eq_emod_of_nonneg (by omega)
    unfold PHs.bits_bit.f
    rw [e2, if_pos (by omega)])
theorem clear_1 (W : World) (g cap : Nat) (xs : List Int) {base : Nat} (h : Kd.R (Kd.int .u8) 5 W base (fun _ => True) (.slice (some ⟨g, 0, none⟩) 1 cap) xs) (hl : xs.length = 1) (ty : TypeId) :
    (Builtin.clear_ #[24] ty #[.slice (some ⟨g, 0, none⟩) 1 cap]).run Try.prog W = .ok (.tuple #[]) (W.setCell ⟨g, 0, none⟩ (.int .u8 0)) :=
  Lib.run_clear_slice W 24 5 ty (.int .u8 0) Try.underlying24 (fun _ => by kernel_rfl) rfl rfl g 0 1 cap (by decide)
    (fun j hj => by
      obtain rfl : j = 0 := by omega
      have := (Kd.R_celln 0 h 0 (by decide) (by decide)).1
      rw [Int.toNat_zero] at this
      rw [Nat.zero_add, this]; rfl)
    (fun j hj => by
      obtain rfl : j = 0 := by omega
      have := (Kd.R_celln 0 h 0 (by decide) (by decide)).2
      rw [Int.toNat_zero] at this
      rw [Nat.zero_add, this])
theorem clear_2 (W : World) (g cap : Nat) (xs : List Int) {base : Nat} (h : Kd.R (Kd.int .u8) 5 W base (fun _ => True) (.slice (some ⟨g, 0, none⟩) 2 cap) xs) (hl : xs.length = 2) (ty : TypeId) :
    (Builtin.clear_ #[24] ty #[.slice (some ⟨g, 0, none⟩) 2 cap]).run Try.prog W = .ok (.tuple #[]) ((W.setCell ⟨g, 0, none⟩ (.int .u8 0)).setCell ⟨g, 1, none⟩ (.int .u8 0)) :=
  Lib.run_clear_slice W 24 5 ty (.int .u8 0) Try.underlying24 (fun _ => by kernel_rfl) rfl rfl g 0 2 cap (by decide)
    (fun j hj => by
      have := (Kd.R_celln 0 h (j : Int) (by omega) (by omega)).1
      rw [Int.toNat_natCast] at this
      rw [Nat.zero_add, this]; rfl)
    (fun j hj => by
      have := (Kd.R_celln 0 h (j : Int) (by omega) (by omega)).2
      rw [Int.toNat_natCast] at this
      rw [Nat.zero_add, this])
set_option maxHeartbeats 8000000 in
set_option maxRecDepth 100000 in
theorem of_in1 (n : Int) (A1 : Option Addr) (c1 : Nat) (l1 : List Int) (w : World) (hr1 : Kd.C (Kd.int .i64) w A1 l1.length l1) (hc1 : l1.length ≤ c1) (hm : l1.length ≤ 1000) (hn : 1 ≤ n ∧ n ≤ 8) (ha : l1.any (outB n) = false) :
    Calls Try.prog 38 #[.int .i64 n, .slice A1 l1.length c1] w fun e w' => ∃ v0_ : Value, e = .returned (.tuple #[v0_, .int .i64 0]) ∧ Kd.R (Kd.int .u8) 5 w' w.heap.size (fun _ => True) v0_ (setF (List.replicate 1 0) l1) ∧ Below w.heap.size w w' := by
  have HB0 := Aside0.mk ((Below.refl w.heap.size w).alloc (Nat.le_refl _) (.cells #[.int .i64 n] 3))
  have hc : (w.alloc (.cells #[.int .i64 n] 3)).cell? ⟨w.heap.size, 0, none⟩ = some (.int .i64 n) := (blk_cell (heap_alloc_new w (.cells #[.int .i64 n] 3)) 0).trans rfl
  have HC0 := Aside0.mk hc
  have HR0 := Aside0.mk hr1
  have HR := Aside0.mk (Kd.C_below hr1 HB0.out)
  have hmf : ∀ (fn : Fn) (first cap : Array Value) (w : World), (Instr.makeFunc fn first cap).run Try.prog w = .ok (.func fn first cap) w := fun _ _ _ _ => rfl
  have HL : Aside0 ((allB n).length = 1) := ⟨by rw [allB_length]; rw [if_pos (by omega)]⟩
  clear hr1
  go_enter Try.func38, Try.ntmps38
  go_wp2_with (first | (go_at_call 61; refine (bits_All.calls n (allB n) 0 _ (by unfold bits_All.f; rw [if_pos ⟨by omega, by omega⟩])).mono ?_; rintro e w1 ⟨v0_, rfl, hr, hb⟩; (have HB := Aside0.mk (below_then HB0.out HB0.out.size hb)); (have HC1 := Aside0.mk (pw_cell_below hb HC0.out)); (have HR1 := Aside0.mk (Kd.C_below HR.out hb)); (obtain ⟨g, cap, e1, hg, hg2, cells, hcells⟩ := Kd.R_form hr (by rw [HL.out]; decide)); subst e1; (have HO := Aside0.mk (Kd.R_lower hr HB0.out.size)); (have HGB := Aside0.mk (Nat.le_trans HB0.out.size hg)); rw [HL.out] at HO; clear hr hb hg hg2 hcells; rw [HL.out]) | (go_at_call 100; refine (contains_of n A1 c1 l1 w.heap.size w1 HR1.out hc1 hm HC1.out).mono ?_; rw [ha]; rintro e w2 ⟨rfl, ⟨nd, rfl⟩⟩; (have HOn := Aside0.mk (Kd.R_drewN HO.out nd)); (have hcl := clear_1 _ g cap _ HOn.out HL.out)))
  have HBn := Aside0.mk (pw_below_drewN HB.out nd)
  have HO3 : Aside0 (Kd.R (Kd.int .u8) 5 ((w1.drewN nd).setCell ⟨g, 0, none⟩ (.int .u8 0)) w.heap.size (fun _ => True) (.slice (some ⟨g, 0, none⟩) 1 cap) (List.replicate 1 0)) := ⟨by
    have h1 := Kd.R_putn HOn.out 0 0
    have h2 : (allB n).set (0 : Int).toNat 0 = List.replicate 1 0 := by
      have := HL.out
      generalize allB n = l at this
      rcases l with _ | ⟨a, _ | ⟨b, l⟩⟩ <;> simp at this ⊢
    rw [h2] at h1
    exact h1⟩
  have HB3 : Aside0 (Below w.heap.size w ((w1.drewN nd).setCell ⟨g, 0, none⟩ (.int .u8 0))) := ⟨below_set HBn.out HGB.out⟩
  clear hcl hc hmf HB HC1 HR1 HO HOn HR HC0 HB0 HBn
  go_loopg [25] (l1.length + 1) (fun kq v25 w' => ∃ (cur : List Int) (x : Int), v25 = .int .i64 x ∧ Aside0 (0 ≤ x ∧ x + kq = l1.length + 1) ∧ Aside0 (cur = setF (List.replicate 1 0) (l1.take x.toNat)) ∧ Aside0 (Kd.R (Kd.int .u8) 5 w' w.heap.size (fun _ => True) (.slice (some ⟨g, 0, none⟩) 1 cap) cur) ∧ Aside0 (Below w.heap.size w w'))
  case atStart => exact ⟨_, 0, rfl, ⟨by omega⟩, ⟨rfl⟩, ⟨HO3.out⟩, ⟨HB3.out⟩⟩
  case round =>
    clear HO3 HB3
    obtain ⟨cur, x, rfl, HX, HA, HO, HB⟩ := hrel
    by_cases h1 : x < (l1.length : Int)
    · have c1 : decide (x < (l1.length : Int)) = true := decide_eq_true h1
      have HC := Aside0.mk (Kd.C_below HR0.out HB.out)
      obtain ⟨ad, e, hx⟩ := Kd.at_int HC.out x HX.out.1 h1
      cases e
      have HT := Aside0.mk (rd_in ha HX.out.1 h1)
      have HTk := Aside0.mk (take_rd HX.out.1 h1)
      have HW : Aside0 (wrap64 (x + 1) = x + 1) := ⟨wrap64_id (by have := HX.out; omega) (by have := HX.out; omega)⟩
      have p1 := eq_true HX.out.1
      have q1 := eq_true h1
      clear h1
      obtain ⟨t, ht⟩ : ∃ t, rd l1 x = t := ⟨_, rfl⟩
      rw [ht] at HT HTk hx
      have HTT := Aside0.mk ht
      clear ht
      have hq : IntKind.i64.wrap (Int.tdiv t 8) = 0 := by
        rw [Int.tdiv_eq_ediv_of_nonneg HT.out.1]
        have := HT.out
        have h8 : t / 8 = 0 := by omega
        rw [h8]; rfl
      have HN : Aside0 (addB cur t = cur.set (0 : Int).toNat (Go.bits .or .u8 (rd cur 0) (shl .u8 1 (t % 8)))) := ⟨by
        have := HT.out
        unfold addB
        rw [show t / 8 = 0 from by omega]⟩
      obtain ⟨hc0, hf0⟩ := Kd.R_celln 0 HO.out 0 (by decide) (by decide)
      replace hc0 : wr.cell? ⟨g, 0, none⟩ = some (.int .u8 (rd cur 0)) := hc0
      replace hf0 : wr.frozen? ⟨g, 0, none⟩ = false := hf0
      go_wp2
      go_region_law (go_simp; go_at_call 87; refine (bit_of t HT.out.1 _).mono ?_; rintro e w2 ⟨rfl, ⟨nd2, rfl⟩⟩)
      all_goals go_wp2
      all_goals go_roundg (gk - 1)
      all_goals first | (case measure => have := HX.out.2; have := of_eq_true q1; omega) | (case rel => exact ⟨_, wrap64 (x + 1), (by first | rfl | (simp; done) | (simp [*]; done)), ⟨by rw [HW.out]; have := HX.out; have := of_eq_true q1; omega⟩, ⟨by rw [HW.out, HTk.out, setF_snoc, ← HA.out, HN.out]⟩, ⟨Kd.R_putn (by (with_reducible repeat (first | apply Kd.R_drewN | apply Kd.R_drew)); exact HO.out) (0 : Int) (Go.bits .or .u8 (rd cur 0) (shl .u8 1 (t % 8)))⟩, ⟨below_set (by repeat (first | (with_reducible first | exact HB.out | apply pw_below_drewN | apply below_drew1) | exact HB.out)) HGB.out⟩⟩)
    · have c1 : decide (x < (l1.length : Int)) = false := decide_eq_false h1
      go_wp2
      go_ret2
      exact ⟨_, rfl, by
        have h2 := HA.out
        rw [List.take_of_length_le (by omega)] at h2
        have h3 := HO.out
        rw [h2] at h3
        exact h3, HB.out⟩
set_option maxHeartbeats 8000000 in
set_option maxRecDepth 100000 in
theorem of_in2 (n : Int) (A1 : Option Addr) (c1 : Nat) (l1 : List Int) (w : World) (hr1 : Kd.C (Kd.int .i64) w A1 l1.length l1) (hc1 : l1.length ≤ c1) (hm : l1.length ≤ 1000) (hn : 9 ≤ n ∧ n ≤ 16) (ha : l1.any (outB n) = false) :
    Calls Try.prog 38 #[.int .i64 n, .slice A1 l1.length c1] w fun e w' => ∃ v0_ : Value, e = .returned (.tuple #[v0_, .int .i64 0]) ∧ Kd.R (Kd.int .u8) 5 w' w.heap.size (fun _ => True) v0_ (setF (List.replicate 2 0) l1) ∧ Below w.heap.size w w' := by
  have HB0 := Aside0.mk ((Below.refl w.heap.size w).alloc (Nat.le_refl _) (.cells #[.int .i64 n] 3))
  have hc : (w.alloc (.cells #[.int .i64 n] 3)).cell? ⟨w.heap.size, 0, none⟩ = some (.int .i64 n) := (blk_cell (heap_alloc_new w (.cells #[.int .i64 n] 3)) 0).trans rfl
  have HC0 := Aside0.mk hc
  have HR0 := Aside0.mk hr1
  have HR := Aside0.mk (Kd.C_below hr1 HB0.out)
  have hmf : ∀ (fn : Fn) (first cap : Array Value) (w : World), (Instr.makeFunc fn first cap).run Try.prog w = .ok (.func fn first cap) w := fun _ _ _ _ => rfl
  have HL : Aside0 ((allB n).length = 2) := ⟨by rw [allB_length]; rw [if_neg (by omega)]⟩
  clear hr1
  go_enter Try.func38, Try.ntmps38
  go_wp2_with (first | (go_at_call 61; refine (bits_All.calls n (allB n) 0 _ (by unfold bits_All.f; rw [if_pos ⟨by omega, by omega⟩])).mono ?_; rintro e w1 ⟨v0_, rfl, hr, hb⟩; (have HB := Aside0.mk (below_then HB0.out HB0.out.size hb)); (have HC1 := Aside0.mk (pw_cell_below hb HC0.out)); (have HR1 := Aside0.mk (Kd.C_below HR.out hb)); (obtain ⟨g, cap, e1, hg, hg2, cells, hcells⟩ := Kd.R_form hr (by rw [HL.out]; decide)); subst e1; (have HO := Aside0.mk (Kd.R_lower hr HB0.out.size)); (have HGB := Aside0.mk (Nat.le_trans HB0.out.size hg)); rw [HL.out] at HO; clear hr hb hg hg2 hcells; rw [HL.out]) | (go_at_call 100; refine (contains_of n A1 c1 l1 w.heap.size w1 HR1.out hc1 hm HC1.out).mono ?_; rw [ha]; rintro e w2 ⟨rfl, ⟨nd, rfl⟩⟩; (have HOn := Aside0.mk (Kd.R_drewN HO.out nd)); (have hcl := clear_2 _ g cap _ HOn.out HL.out)))
  have HBn := Aside0.mk (pw_below_drewN HB.out nd)
  have HO3 : Aside0 (Kd.R (Kd.int .u8) 5 (((w1.drewN nd).setCell ⟨g, 0, none⟩ (.int .u8 0)).setCell ⟨g, 1, none⟩ (.int .u8 0)) w.heap.size (fun _ => True) (.slice (some ⟨g, 0, none⟩) 2 cap) (List.replicate 2 0)) := ⟨by
    have h1 := Kd.R_putn (Kd.R_putn HOn.out 0 0) 1 0
    have h2 : ((allB n).set (0 : Int).toNat 0).set (1 : Int).toNat 0 = List.replicate 2 0 := by
      have := HL.out
      generalize allB n = l at this
      rcases l with _ | ⟨a, _ | ⟨b, _ | ⟨c, l⟩⟩⟩ <;> simp at this ⊢
    rw [h2] at h1
    exact h1⟩
  have HB3 : Aside0 (Below w.heap.size w (((w1.drewN nd).setCell ⟨g, 0, none⟩ (.int .u8 0)).setCell ⟨g, 1, none⟩ (.int .u8 0))) := ⟨below_set (below_set HBn.out HGB.out) HGB.out⟩
  clear hcl hc hmf HB HC1 HR1 HO HOn HR HC0 HB0 HBn
  go_loopg [25] (l1.length + 1) (fun kq v25 w' => ∃ (cur : List Int) (x : Int), v25 = .int .i64 x ∧ Aside0 (0 ≤ x ∧ x + kq = l1.length + 1) ∧ Aside0 (cur = setF (List.replicate 2 0) (l1.take x.toNat)) ∧ Aside0 (Kd.R (Kd.int .u8) 5 w' w.heap.size (fun _ => True) (.slice (some ⟨g, 0, none⟩) 2 cap) cur) ∧ Aside0 (Below w.heap.size w w'))
  case atStart => exact ⟨_, 0, rfl, ⟨by omega⟩, ⟨rfl⟩, ⟨HO3.out⟩, ⟨HB3.out⟩⟩
  case round =>
    clear HO3 HB3
    obtain ⟨cur, x, rfl, HX, HA, HO, HB⟩ := hrel
    by_cases h1 : x < (l1.length : Int)
    · have c1 : decide (x < (l1.length : Int)) = true := decide_eq_true h1
      have HC := Aside0.mk (Kd.C_below HR0.out HB.out)
      obtain ⟨ad, e, hx⟩ := Kd.at_int HC.out x HX.out.1 h1
      cases e
      have HT := Aside0.mk (rd_in ha HX.out.1 h1)
      have HTk := Aside0.mk (take_rd HX.out.1 h1)
      have HW : Aside0 (wrap64 (x + 1) = x + 1) := ⟨wrap64_id (by have := HX.out; omega) (by have := HX.out; omega)⟩
      have p1 := eq_true HX.out.1
      have q1 := eq_true h1
      clear h1
      obtain ⟨t, ht⟩ : ∃ t, rd l1 x = t := ⟨_, rfl⟩
      rw [ht] at HT HTk hx
      have HTT := Aside0.mk ht
      clear ht
      by_cases h8 : t < 8
      · have hq : IntKind.i64.wrap (Int.tdiv t 8) = 0 := by
          rw [Int.tdiv_eq_ediv_of_nonneg HT.out.1]
          have := HT.out
          have h8 : t / 8 = 0 := by omega
          rw [h8]; rfl
        have HN : Aside0 (addB cur t = cur.set (0 : Int).toNat (Go.bits .or .u8 (rd cur 0) (shl .u8 1 (t % 8)))) := ⟨by
          have := HT.out
          unfold addB
          rw [show t / 8 = 0 from by omega]⟩
        obtain ⟨hc0, hf0⟩ := Kd.R_celln 0 HO.out 0 (by decide) (by decide)
        replace hc0 : wr.cell? ⟨g, 0, none⟩ = some (.int .u8 (rd cur 0)) := hc0
        replace hf0 : wr.frozen? ⟨g, 0, none⟩ = false := hf0
        go_wp2
        go_region_law (go_simp; go_at_call 87; refine (bit_of t HT.out.1 _).mono ?_; rintro e w2 ⟨rfl, ⟨nd2, rfl⟩⟩)
        all_goals go_wp2
        all_goals go_roundg (gk - 1)
        all_goals first | (case measure => have := HX.out.2; have := of_eq_true q1; omega) | (case rel => exact ⟨_, wrap64 (x + 1), (by first | rfl | (simp; done) | (simp [*]; done)), ⟨by rw [HW.out]; have := HX.out; have := of_eq_true q1; omega⟩, ⟨by rw [HW.out, HTk.out, setF_snoc, ← HA.out, HN.out]⟩, ⟨Kd.R_putn (by (with_reducible repeat (first | apply Kd.R_drewN | apply Kd.R_drew)); exact HO.out) (0 : Int) (Go.bits .or .u8 (rd cur 0) (shl .u8 1 (t % 8)))⟩, ⟨below_set (by repeat (first | (with_reducible first | exact HB.out | apply pw_below_drewN | apply below_drew1) | exact HB.out)) HGB.out⟩⟩)
      · have hq : IntKind.i64.wrap (Int.tdiv t 8) = 1 := by
          rw [Int.tdiv_eq_ediv_of_nonneg HT.out.1]
          have := HT.out
          have h8 : t / 8 = 1 := by omega
          rw [h8]; rfl
        have HN : Aside0 (addB cur t = cur.set (1 : Int).toNat (Go.bits .or .u8 (rd cur 1) (shl .u8 1 (t % 8)))) := ⟨by
          have := HT.out
          unfold addB
          rw [show t / 8 = 1 from by omega]⟩
        obtain ⟨hc0, hf0⟩ := Kd.R_celln 0 HO.out 1 (by decide) (by decide)
        replace hc0 : wr.cell? ⟨g, 1, none⟩ = some (.int .u8 (rd cur 1)) := hc0
        replace hf0 : wr.frozen? ⟨g, 1, none⟩ = false := hf0
        go_wp2
        go_region_law (go_simp; go_at_call 87; refine (bit_of t HT.out.1 _).mono ?_; rintro e w2 ⟨rfl, ⟨nd2, rfl⟩⟩)
        all_goals go_wp2
        all_goals go_roundg (gk - 1)
        all_goals first | (case measure => have := HX.out.2; have := of_eq_true q1; omega) | (case rel => exact ⟨_, wrap64 (x + 1), (by first | rfl | (simp; done) | (simp [*]; done)), ⟨by rw [HW.out]; have := HX.out; have := of_eq_true q1; omega⟩, ⟨by rw [HW.out, HTk.out, setF_snoc, ← HA.out, HN.out]⟩, ⟨Kd.R_putn (by (with_reducible repeat (first | apply Kd.R_drewN | apply Kd.R_drew)); exact HO.out) (1 : Int) (Go.bits .or .u8 (rd cur 1) (shl .u8 1 (t % 8)))⟩, ⟨below_set (by repeat (first | (with_reducible first | exact HB.out | apply pw_below_drewN | apply below_drew1) | exact HB.out)) HGB.out⟩⟩)
    · have c1 : decide (x < (l1.length : Int)) = false := decide_eq_false h1
      go_wp2
      go_ret2
      exact ⟨_, rfl, by
        have h2 := HA.out
        rw [List.take_of_length_le (by omega)] at h2
        have h3 := HO.out
        rw [h2] at h3
        exact h3, HB.out⟩

/-- The guard: a list of at most 1000 numbers. -/
def q_Of.f (n : Int) (l : List Int) : Option (List Int × Int) := if l.length ≤ 1000 then some (ofS n l) else none
theorem q_Of.calls (a0 : Int) (A1 : Option Addr) (c1 : Nat) (l1 : List Int) (r1 : List Int) (r2 : Int) (w : World) (hr1 : Kd.C (Kd.int .i64) w A1 l1.length l1) (hc1 : l1.length ≤ c1) (h : q_Of.f a0 l1 = some (r1, r2)) :
    Calls Try.prog 38 #[.int .i64 a0, .slice A1 l1.length c1] w fun e w' => ∃ v0_ : Value, e = .returned (.tuple #[v0_, .int .i64 r2]) ∧ Kd.R (Kd.int .u8) 5 w' w.heap.size (fun _ => True) v0_ r1 ∧ Below w.heap.size w w' := by
  unfold q_Of.f ofS at h
  split at h
  · rename_i hm
    by_cases hn : 1 ≤ a0 ∧ a0 ≤ 16
    · rw [if_pos hn] at h
      cases ha : l1.any (outB a0) with
      | true =>
        rw [ha, if_pos rfl] at h
        simp only [Option.some.injEq, Prod.mk.injEq] at h
        obtain ⟨rfl, rfl⟩ := h
        refine (of_out a0 A1 c1 l1 w hr1 hc1 hm hn ha).mono ?_
        rintro e w' ⟨rfl, hb⟩
        exact ⟨_, rfl, Kd.R_nil _ _ _ _ _, hb⟩
      | false =>
        rw [ha, if_neg (by decide)] at h
        simp only [Option.some.injEq, Prod.mk.injEq] at h
        obtain ⟨rfl, rfl⟩ := h
        by_cases h8 : a0 ≤ 8
        · rw [if_pos h8]
          exact of_in1 a0 A1 c1 l1 w hr1 hc1 hm ⟨hn.1, h8⟩ ha
        · rw [if_neg h8]
          exact of_in2 a0 A1 c1 l1 w hr1 hc1 hm ⟨by omega, hn.2⟩ ha
    · rw [if_neg hn] at h
      simp only [Option.some.injEq, Prod.mk.injEq] at h
      obtain ⟨rfl, rfl⟩ := h
      refine (of_far a0 A1 c1 l1 w hn).mono ?_
      rintro e w' ⟨rfl, hb⟩
      exact ⟨_, rfl, Kd.R_nil _ _ _ _ _, hb⟩
  · simp at h
end Go.Proofs.Ytpbnppeodoflcaa.E

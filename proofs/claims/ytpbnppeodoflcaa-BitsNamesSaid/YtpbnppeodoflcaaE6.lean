/- bits.Next. -/
import Derived.Test.YtpbnppeodoflcaaE5
namespace Go.Proofs.Ytpbnppeodoflcaa.E
open Go.RowKit Go.Shelf Go.Proofs.YtpbnppeodoflcaaW.PrintWords Go.Proofs.YtpbnppeodoflcaaW.PrintLast Go.Proofs.YtpbnppeodoflcaaW.PrintMore Go.Proofs.Ytpbnppeodoflcaa.K
attribute [local go_sem] Oper.semAt_some
set_option linter.unusedVariables false
set_option linter.unusedSimpArgs false

/-- The first one that has come (below 0: none). -/
def fst1 (pre : List Int) : Int := pre.foldl (fun a x => if a < 0 then x else a) (-1)
def lst1 (pre : List Int) : Int := pre.getLast?.getD 0
theorem fst1_snoc (pre : List Int) (x : Int) : fst1 (pre ++ [x]) = if fst1 pre < 0 then x else fst1 pre := by unfold fst1; rw [List.foldl_append]; rfl
theorem lst1_snoc (pre : List Int) (x : Int) : lst1 (pre ++ [x]) = x := by simp [lst1]
theorem results_two {P : Program} {fn : Func} {p p' : Tmp} {ty ty' : TypeId} (h : fn.results = #[.cell p ty, .cell p' ty']) (tmps : Array Value) (w : World) (a a' : Addr) (k k' : IntKind) (x x' : Int)
    (hp : tmps.getD p undef = .pointer (some a)) (hg : w.cell? a = some (.int k x)) (hu : P.underlying ty = some (.int k))
    (hp' : tmps.getD p' undef = .pointer (some a')) (hg' : w.cell? a' = some (.int k' x')) (hu' : P.underlying ty' = some (.int k')) :
    (results fn tmps).run P w = .ok (.tuple #[.int k x, .int k' x']) w := by
  have h1 : tmps[p]?.getD undef = .pointer (some a) := by simpa using hp
  have h2 : tmps[p']?.getD undef = .pointer (some a') := by simpa using hp'
  simp [results, h, h1, h2, asAddr, go_sem, isAgg, hg, hg', run_underlying hu, run_underlying hu']

/-- The first track from one on, going round; below 0: there is none. -/
def nxS (l : List Int) (t : Int) : Int := ((trk 0 l).find? fun x => decide (t ≤ x)).getD (fst1 (trk 0 l))
def bits_Next.f (a0 : Int) (l : List Int) (a2 : Int) : Option (Int × Int) := if okB l = true then (PHs.bits_Has.f a0 l a2).bind fun r => (if r.2 = 0 then some (nxS l a2, 0) else some (0, r.2)) else none

theorem nx_none {l : List Int} {t : Int} (h : ∀ x ∈ trk 0 l, x < t) : nxS l t = fst1 (trk 0 l) := by
  unfold nxS
  rw [List.find?_eq_none.2 (fun x hx => by have := h x hx; simp; omega)]
  rfl
theorem nx_some {l pre : List Int} {t : Int} (hp : pre <+: trk 0 l) (h : ∀ x ∈ pre.dropLast, x < t) (hl : t ≤ lst1 pre) (hne : pre ≠ []) : nxS l t = lst1 pre := by
  obtain ⟨r, hr⟩ := hp
  unfold nxS
  have hx : lst1 pre = pre.getLast hne := by unfold lst1; rw [List.getLast?_eq_some_getLast hne]; rfl
  rw [← hr]
  conv => lhs; rw [← List.dropLast_concat_getLast hne]
  rw [List.append_assoc, List.find?_append, List.find?_eq_none.2 (fun x hx => by have := h x hx; simp; omega), ← hx]
  simp [hl]

set_option maxRecDepth 100000 in
set_option maxHeartbeats 4000000 in
theorem next_yes (a0 : Int) (A1 : Option Addr) (c1 : Nat) (l1 : List Int) (a2 : Int) (is : Bool) (w : World) (hr1 : Kd.C (Kd.int .u8) w A1 l1.length l1) (hc1 : l1.length ≤ c1) (hb : okB l1 = true) (hlen : l1.length ≤ 2) (h : PHs.bits_Has.f a0 l1 a2 = some (is, 0)) :
    Calls Try.prog 25 #[.int .i64 a0, .slice A1 l1.length c1, .int .i64 a2] w fun e w' => e = .returned (.tuple #[.int .i64 (nxS l1 a2), .int .i64 0]) ∧ Below w.heap.size w w' := by
  refine (callsIn_wide (n := 6)).1 ?_
  refine callsIn_of_wp_marks Try.func25 rfl trivial ?_ rfl
  simp only [Try.ntmps25, List.size_toArray, List.length_cons, List.length_nil, Nat.reduceAdd, Nat.reduceSub, Array.replicate_succ, Array.replicate_zero, List.push_toArray, List.append_toArray, List.nil_append, List.cons_append]
  have HH : Aside0 (∀ w1, Below w.heap.size w w1 → Calls Try.prog 23 #[.int .i64 a0, .slice A1 l1.length c1, .int .i64 a2] w1 fun e w' => e = .returned (.tuple #[.bool is, .int .i64 0]) ∧ Below w1.heap.size w1 w') := ⟨fun w1 hw => PHs.bits_Has.calls a0 A1 c1 l1 a2 is 0 w1 (Kd.C_below hr1 hw) hc1 h⟩
  have HR := Aside0.mk hr1
  clear hr1 h
  have b5 := Boxed.new w 3 (.int .i64 a2)
  have b6 := Boxed.new (w.alloc (.cells #[.int .i64 a2] 3)) 3 (.int .i64 0)
  rw [World.size_alloc] at b6
  have b7 := Boxed.new ((w.alloc (.cells #[.int .i64 a2] 3)).alloc (.cells #[.int .i64 0] 3)) 25 (.int .i64 0)
  rw [World.size_alloc, World.size_alloc] at b7
  replace b6 := b6.alloc (.cells #[.int .i64 0] 25)
  replace b5 := (b5.alloc (.cells #[.int .i64 0] 3)).alloc (.cells #[.int .i64 0] 25)
  have hB0 : Below w.heap.size w (((w.alloc (.cells #[.int .i64 a2] 3)).alloc (.cells #[.int .i64 0] 3)).alloc (.cells #[.int .i64 0] 25)) := (((Below.refl _ w).alloc (Nat.le_refl _) _).alloc (by simp) _).alloc (by simp; omega) _
  have hz0 : (((w.alloc (.cells #[.int .i64 a2] 3)).alloc (.cells #[.int .i64 0] 3)).alloc (.cells #[.int .i64 0] 25)).heap.size = w.heap.size + 3 := by simp
  obtain ⟨w0, hw0⟩ : ∃ w0, ((w.alloc (.cells #[.int .i64 a2] 3)).alloc (.cells #[.int .i64 0] 3)).alloc (.cells #[.int .i64 0] 25) = w0 := ⟨_, rfl⟩
  rw [hw0] at b5 b6 b7 hB0 hz0
  have HW0 := Aside0.mk hw0
  clear hw0
  have hc5 := b5.cell
  have B5 := Aside0.mk b5
  have B6 := Aside0.mk b6
  have B7 := Aside0.mk b7
  have HB0 := Aside0.mk hB0
  have HZ0 := Aside0.mk hz0
  clear b5 b6 b7 hB0 hz0
  gi_wp2_with (first | (refine ⟨trivial, ?_⟩; gi_at_call 83; refine (callsIn_wide.2 (tracks_calls _ _ _ _)).mono ?_; rintro e w2 ⟨rfl, rfl⟩) | (refine ⟨trivial, ?_⟩; gi_at_call 23; rw [HW0.out]; refine (callsIn_wide.2 (HH.out w0 HB0.out)).mono ?_; rintro e w1 ⟨rfl, hb1⟩; (have HB1 := Aside0.mk hb1); clear hb1))
  have hB1 : Below w.heap.size w w1 := below_then HB0.out HB0.out.size HB1.out
  have hz1 : w.heap.size + 3 ≤ w1.heap.size := by have := HB1.out.size; have := HZ0.out; omega
  have f10 := Boxed.new w1 3 (.int .i64 (-1))
  obtain ⟨wl, hwl⟩ : ∃ wl, (w1.alloc (.cells #[.int .i64 (-1)] 3)).alloc (.cells #[.slice A1 l1.length c1] 24) = wl := ⟨_, rfl⟩
  have hBl : Below w1.heap.size w1 wl := by rw [← hwl]; exact ((Below.refl _ w1).alloc (Nat.le_refl _) _).alloc (by simp) _
  have hBwl : Below w.heap.size w wl := below_then hB1 hB1.size hBl
  have g10 : Boxed wl w1.heap.size 3 (.int .i64 (-1)) := by rw [← hwl]; exact f10.alloc _
  have g5 : Boxed wl w.heap.size 3 (.int .i64 a2) := blk_below (blk_below B5.out HB1.out) hBl
  have g6 : Boxed wl (w.heap.size + 1) 3 (.int .i64 0) := blk_below (blk_below B6.out HB1.out) hBl
  have g7 : Boxed wl (w.heap.size + 1 + 1) 25 (.int .i64 0) := blk_below (blk_below B7.out HB1.out) hBl
  have gs : wl.cell? ⟨w1.heap.size + 1, 0, none⟩ = some (.slice A1 l1.length c1) := by
    have := cell_one_new (w1.alloc (.cells #[.int .i64 (-1)] 3)) (.slice A1 l1.length c1) 24 0 _ rfl
    rw [add_none, World.size_alloc, hwl] at this
    exact this
  have hzl : w1.heap.size + 2 = wl.heap.size := by rw [← hwl]; simp
  rw [hwl]
  refine wpIn_rangeFunc_ownG rfl (by omega) (gf := 149) (lb := #[.pointer (some ⟨w1.heap.size + 1, 0, none⟩)]) rfl trivial (enters_of Try.func149 (by kernel_rfl) rfl)
    (tracks_stops 5 (by omega) (w1.heap.size + 1) w.heap.size A1 c1 l1 (by omega) (okB_mem hb) w wl hBwl rfl HR.out gs) belowK_t (belowK_b (by omega)) (Below.refl _ _) (fun _ => rfl)
    (fun pre W => Boxed W w.heap.size 3 (.int .i64 a2) ∧ Boxed W (w.heap.size + 1) 3 (.int .i64 0) ∧ Boxed W (w.heap.size + 1 + 1) 25 (.int .i64 0) ∧ Boxed W w1.heap.size 3 (.int .i64 (fst1 pre)) ∧ Aside0 (∀ x ∈ pre, x < a2) ∧ Below w.heap.size w W)
    (fun c pre W => Aside0 (c = .ret) ∧ Boxed W (w.heap.size + 1) 3 (.int .i64 (lst1 pre)) ∧ Boxed W (w.heap.size + 1 + 1) 25 (.int .i64 0) ∧ Aside0 ((∀ x ∈ pre.dropLast, x < a2) ∧ a2 ≤ lst1 pre ∧ pre ≠ []) ∧ Below w.heap.size w W)
    (OwnFrom.and (Own.from (boxed_own _ _ (fun _ => _)) _) (OwnFrom.and (Own.from (boxed_own _ _ (fun _ => _)) _) (OwnFrom.and (Own.from (boxed_own _ _ (fun _ => _)) _) (OwnFrom.and (Own.from (boxed_own _ _ (fun pre => .int .i64 (fst1 pre))) _) (OwnFrom.and (ownFrom_pure _ (fun pre => Aside0 (∀ x ∈ pre, x < a2))) (ownFrom_below (Nat.le_refl _) (by omega)))))))
    (fun c => OwnFrom.and (ownFrom_pure _ (fun _ => Aside0 (c = .ret))) (OwnFrom.and (Own.from (boxed_own _ _ (fun pre => .int .i64 (lst1 pre))) _) (OwnFrom.and (Own.from (boxed_own _ _ (fun _ => _)) _) (OwnFrom.and (ownFrom_pure _ (fun pre => Aside0 ((∀ x ∈ pre.dropLast, x < a2) ∧ a2 ≤ lst1 pre ∧ pre ≠ []))) (ownFrom_below (Nat.le_refl _) (by omega))))))
    ⟨g5, g6, g7, g10, ⟨by simp⟩, hBwl⟩
    (fun x => { tmps := #[.int .i64 a0, .slice A1 l1.length c1, .int .i64 a2, undef, undef, .pointer (some ⟨w.heap.size, 0, none⟩), .pointer (some ⟨w.heap.size + 1, 0, none⟩), .pointer (some ⟨w.heap.size + 1 + 1, 0, none⟩), .bool is, .int .i64 0, .pointer (some ⟨w1.heap.size, 0, none⟩), .int .i64 x, .tuple #[.bool is, .int .i64 0], .int .i64 a0, .slice A1 l1.length c1, .int .i64 a2, .tuple #[.bool is, .int .i64 0], .bool is, .int .i64 0, .int .i64 0, .bool false, undef, .slice A1 l1.length c1, .func (.func 149) #[] #[.pointer (some ⟨w1.heap.size + 1, 0, none⟩)], .int .i64 x, undef, undef, undef, undef, undef, undef, undef, undef], defers := [] }) ?assign ?body ?done ?stop
  case assign =>
    intro l x W K hK
    gi_wp2
    exact hK
  case body =>
    rintro l pre x W ⟨h5, h6, h7, h10, hp, hB⟩ hlt
    have k5 := h5.cell
    have k6 := h6.cell
    have k7 := h7.cell
    have k10 := h10.cell
    have z6 := h6.frozen
    have z7 := h7.frozen
    have z10 := h10.frozen
    by_cases hx : a2 ≤ x
    · have hx1 : decide (a2 ≤ x) = true := decide_eq_true hx
      gi_wp2
      refine ⟨((KeepsOthers.setCell _ _ _).trans (KeepsOthers.setCell _ _ _)).from _, ⟨rfl⟩, ?_, (h7.other (by omega) _).set _, ⟨by rw [List.dropLast_concat]; exact hp.out, by rw [lst1_snoc]; exact hx, by simp⟩, (hB.setCell (p := ⟨w.heap.size + 1, 0, none⟩) (by simp) _).setCell (p := ⟨w.heap.size + 1 + 1, 0, none⟩) (by simp; omega) _⟩
      rw [lst1_snoc]
      exact (h6.set _).other (by omega) _
    · have hx1 : decide (a2 ≤ x) = false := decide_eq_false hx
      by_cases hf : fst1 pre < 0
      · have hf1 : decide (fst1 pre < 0) = true := decide_eq_true hf
        gi_wp2
        refine ⟨(KeepsOthers.setCell _ _ _).from _, (Below.refl w.heap.size W).setCell (p := ⟨w1.heap.size, 0, none⟩) (by simp; omega) _, h5.other (by omega) _, h6.other (by omega) _, h7.other (by omega) _, ?_, ⟨by simp only [List.mem_append, List.mem_singleton]; rintro y (hy | rfl); exact hp.out y hy; omega⟩, hB.setCell (p := ⟨w1.heap.size, 0, none⟩) (by simp; omega) _⟩
        rw [fst1_snoc, if_pos hf]
        exact h10.set _
      · have hf1 : decide (fst1 pre < 0) = false := decide_eq_false hf
        gi_wp2
        refine ⟨KeepsFrom.refl _ _, Below.refl _ _, h5, h6, h7, ?_, ⟨by simp only [List.mem_append, List.mem_singleton]; rintro y (hy | rfl); exact hp.out y hy; omega⟩, hB⟩
        rw [fst1_snoc, if_neg (by omega)]
        exact h10
  case done =>
    rintro D ys W hD rfl ⟨h5, h6, h7, h10, hp, hB⟩ hK
    have k6 := h6.cell
    have k7 := h7.cell
    have k10 := h10.cell
    have z6 := h6.frozen
    have z7 := h7.frozen
    gi_wp2
    have hK2 := ((KeepsOthers.setCell W ⟨w.heap.size + 1, 0, none⟩ (.int .i64 (fst1 (trk 0 l1)))).trans (KeepsOthers.setCell _ ⟨w.heap.size + 1 + 1, 0, none⟩ (.int .i64 0))).same D _ hK rfl
    refine ⟨by simp, .inl ⟨_, _, rfl, run_takeDeferred hK2, ?_⟩⟩
    have e6 : Boxed ((W.setCell ⟨w.heap.size + 1, 0, none⟩ (.int .i64 (fst1 (trk 0 l1)))).setCell ⟨w.heap.size + 1 + 1, 0, none⟩ (.int .i64 0)) (w.heap.size + 1) 3 (.int .i64 (fst1 (trk 0 l1))) := (h6.set _).other (by omega) _
    have e7 : Boxed ((W.setCell ⟨w.heap.size + 1, 0, none⟩ (.int .i64 (fst1 (trk 0 l1)))).setCell ⟨w.heap.size + 1 + 1, 0, none⟩ (.int .i64 0)) (w.heap.size + 1 + 1) 25 (.int .i64 0) := (h7.other (by omega) _).set _
    have eB := (hB.setCell (p := ⟨w.heap.size + 1, 0, none⟩) (by simp) (.int .i64 (fst1 (trk 0 l1)))).setCell (p := ⟨w.heap.size + 1 + 1, 0, none⟩) (by simp; omega) (.int .i64 0)
    have q6 := e6.kept (grownBy_putObj' _ D (.deferred none)) (by simp; omega)
    have q7 := e7.kept (grownBy_putObj' _ D (.deferred none)) (by simp; omega)
    exact ⟨_, results_two rfl _ _ ⟨w.heap.size + 1, 0, none⟩ ⟨w.heap.size + 1 + 1, 0, none⟩ .i64 .i64 _ _ rfl q6.cell Try.underlying3 rfl q7.cell Try.underlying25, by rw [nx_none hp.out], eB.trans (belowK_b (w := w) (Nat.le_refl _) _ D _ _ (by omega) hK2 rfl rfl)⟩
  case stop =>
    rintro D c pre W hD hpre ⟨hc, h6, h7, hp, hB⟩ hK
    obtain rfl := hc.out
    gi_wp2
    refine ⟨by simp, .inl ⟨_, _, rfl, run_takeDeferred hK, ?_⟩⟩
    have q6 := h6.kept (grownBy_putObj' _ D (.deferred none)) (by simp; omega)
    have q7 := h7.kept (grownBy_putObj' _ D (.deferred none)) (by simp; omega)
    exact ⟨_, results_two rfl _ _ ⟨w.heap.size + 1, 0, none⟩ ⟨w.heap.size + 1 + 1, 0, none⟩ .i64 .i64 _ _ rfl q6.cell Try.underlying3 rfl q7.cell Try.underlying25, by rw [nx_some hpre hp.out.1 hp.out.2.1 hp.out.2.2], hB.trans (belowK_b (w := w) (Nat.le_refl _) _ D _ _ (by omega) hK rfl rfl)⟩

set_option maxRecDepth 100000 in
set_option maxHeartbeats 4000000 in
theorem next_no (a0 : Int) (A1 : Option Addr) (c1 : Nat) (l1 : List Int) (a2 : Int) (is : Bool) (e : Int) (he : e ≠ 0) (w : World) (hr1 : Kd.C (Kd.int .u8) w A1 l1.length l1) (hc1 : l1.length ≤ c1) (h : PHs.bits_Has.f a0 l1 a2 = some (is, e)) :
    Calls Try.prog 25 #[.int .i64 a0, .slice A1 l1.length c1, .int .i64 a2] w fun e' w' => e' = .returned (.tuple #[.int .i64 0, .int .i64 e]) ∧ Below w.heap.size w w' := by
  have HH : Aside0 (∀ w1, Below w.heap.size w w1 → Calls Try.prog 23 #[.int .i64 a0, .slice A1 l1.length c1, .int .i64 a2] w1 fun e' w' => e' = .returned (.tuple #[.bool is, .int .i64 e]) ∧ Below w1.heap.size w1 w') := ⟨fun w1 hw => PHs.bits_Has.calls a0 A1 c1 l1 a2 is e w1 (Kd.C_below hr1 hw) hc1 h⟩
  clear hr1 h
  have b6 := Boxed.new (w.alloc (.cells #[.int .i64 a2] 3)) 3 (.int .i64 0)
  rw [World.size_alloc] at b6
  have b7 := Boxed.new ((w.alloc (.cells #[.int .i64 a2] 3)).alloc (.cells #[.int .i64 0] 3)) 25 (.int .i64 0)
  rw [World.size_alloc, World.size_alloc] at b7
  replace b6 := b6.alloc (.cells #[.int .i64 0] 25)
  have hB0 : Below w.heap.size w (((w.alloc (.cells #[.int .i64 a2] 3)).alloc (.cells #[.int .i64 0] 3)).alloc (.cells #[.int .i64 0] 25)) := (((Below.refl _ w).alloc (Nat.le_refl _) _).alloc (by simp) _).alloc (by simp; omega) _
  obtain ⟨w0, hw0⟩ : ∃ w0, ((w.alloc (.cells #[.int .i64 a2] 3)).alloc (.cells #[.int .i64 0] 3)).alloc (.cells #[.int .i64 0] 25) = w0 := ⟨_, rfl⟩
  rw [hw0] at b6 b7 hB0
  have HW0 := Aside0.mk hw0
  clear hw0
  have B6 := Aside0.mk b6
  have B7 := Aside0.mk b7
  have HB0 := Aside0.mk hB0
  have hnz : (e != 0) = true := bne_iff_ne.2 he
  clear b6 b7 hB0 he
  go_enter Try.func25, Try.ntmps25
  go_wp2_with (go_at_call 23; rw [HW0.out]; refine (HH.out w0 HB0.out).mono ?_; rintro e' w1 ⟨rfl, hb1⟩; (have HB1 := Aside0.mk hb1); (have E6 := Aside0.mk (show Boxed w1 _ _ _ from blk_below B6.out hb1)); (have E7 := Aside0.mk (show Boxed w1 _ _ _ from blk_below B7.out hb1)); (have k6 := E6.out.cell); (have k7 := E7.out.cell); (have z6 := E6.out.frozen); (have z7 := E7.out.frozen); clear hb1)
  have eB := ((below_then HB0.out HB0.out.size HB1.out).setCell (p := ⟨w.heap.size + 1, 0, none⟩) (by simp) (.int .i64 0)).setCell (p := ⟨w.heap.size + 1 + 1, 0, none⟩) (by simp; omega) (.int .i64 e)
  refine bodyPost_ret (results_two rfl _ _ ⟨w.heap.size + 1, 0, none⟩ ⟨w.heap.size + 1 + 1, 0, none⟩ .i64 .i64 0 e rfl ((E6.out.set _).other (by omega) _).cell Try.underlying3 rfl ((E7.out.other (by omega) _).set _).cell Try.underlying25) rfl ?_
  exact ⟨rfl, eB⟩

theorem bits_Next.calls (a0 : Int) (A1 : Option Addr) (c1 : Nat) (l1 : List Int) (a2 : Int) (r1 : Int) (r2 : Int) (w : World) (hr1 : Kd.C (Kd.int .u8) w A1 l1.length l1) (hc1 : l1.length ≤ c1) (h : bits_Next.f a0 l1 a2 = some (r1, r2)) :
    Calls Try.prog 25 #[.int .i64 a0, .slice A1 l1.length c1, .int .i64 a2] w fun e w' => e = .returned (.tuple #[.int .i64 r1, .int .i64 r2]) ∧ Below w.heap.size w w' := by
  unfold bits_Next.f at h
  by_cases hb : okB l1 = true
  · rw [if_pos hb] at h
    obtain ⟨⟨is, e⟩, hh, h⟩ := Option.bind_eq_some_iff.1 h
    by_cases he : e = 0
    · subst he
      simp only [if_true, Option.some.injEq, Prod.mk.injEq] at h
      obtain ⟨rfl, rfl⟩ := h
      refine next_yes a0 A1 c1 l1 a2 is w hr1 hc1 hb ?_ hh
      have h2 := hh
      unfold PHs.bits_Has.f bits_Check.f at h2
      simp only [Option.bind_some] at h2
      by_cases hz : ckS a0 l1 = 0
      · exact (ckS_len hz).1
      · rw [if_neg hz] at h2
        simp at h2
        exact absurd h2.2 hz
    · simp only [if_neg he, Option.some.injEq, Prod.mk.injEq] at h
      obtain ⟨rfl, rfl⟩ := h
      exact next_no a0 A1 c1 l1 a2 is e he w hr1 hc1 hh
  · rw [if_neg hb] at h
    exact absurd h (by simp)
end Go.Proofs.Ytpbnppeodoflcaa.E

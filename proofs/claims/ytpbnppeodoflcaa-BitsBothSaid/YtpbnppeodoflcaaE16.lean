/- Plain facts about sets of tracks: bits of what is put together, of a list's set. -/
import Derived.Test.YtpbnppeodoflcaaE15
namespace Go.Proofs.Ytpbnppeodoflcaa.E
open Go.RowKit Go.Proofs.YtpbnppeodoflcaaW.PrintWords Go.Proofs.YtpbnppeodoflcaaW.PrintLast Go.Proofs.YtpbnppeodoflcaaW.PrintMore Go.Proofs.Ytpbnppeodoflcaa.K
set_option linter.unusedVariables false
set_option linter.unusedSimpArgs false

theorem bitB_test (c j : Nat) : bitB (c : Int) j = c.testBit j := by
  unfold bitB
  rw [Int.toNat_natCast, Nat.testBit_eq_decide_div_mod_eq]
  rfl
theorem or_nat (a b : Nat) (ha : a < 256) (hb : b < 256) : Go.bits .or .u8 (a : Int) (b : Int) = ((a ||| b : Nat) : Int) := (bits_nat .u8 8 (by decide) wraps_u8 a b ha hb).2
theorem andNot_nat (a b : Nat) (ha : a < 256) (hb : b < 256) : ∃ c : Nat, c < 256 ∧ Go.bits .andNot .u8 (a : Int) (b : Int) = (c : Int) ∧ ∀ j, j < 8 → c.testBit j = (a.testBit j && !b.testBit j) := by
  refine ⟨(BitVec.ofNat 8 a &&& ~~~(BitVec.ofNat 8 b)).toNat, (BitVec.ofNat 8 a &&& ~~~(BitVec.ofNat 8 b)).isLt, ?_, ?_⟩
  · have := (BitVec.ofNat 8 a &&& ~~~(BitVec.ofNat 8 b)).isLt
    show IntKind.u8.wrap _ = _
    rw [wraps_u8 _ (by omega) (by
      have h2 : (BitVec.ofInt 8 (a : Int) &&& ~~~(BitVec.ofInt 8 (b : Int))).toNat < 256 := (BitVec.ofInt 8 (a : Int) &&& ~~~(BitVec.ofInt 8 (b : Int))).isLt
      exact_mod_cast h2)]
    rfl
  · intro j hj
    have h1 : a % 256 = a := Nat.mod_eq_of_lt ha
    have h2 : b % 256 = b := Nat.mod_eq_of_lt hb
    rw [BitVec.testBit_toNat, BitVec.getLsbD_and, BitVec.getLsbD_not, BitVec.getLsbD_ofNat, BitVec.getLsbD_ofNat]
    simp [hj]
theorem or_in {x y : Int} (hx : 0 ≤ x ∧ x < 256) (hy : 0 ≤ y ∧ y < 256) : 0 ≤ Go.bits .or .u8 x y ∧ Go.bits .or .u8 x y < 256 := by
  obtain ⟨a, rfl⟩ := Int.eq_ofNat_of_zero_le hx.1
  obtain ⟨b, rfl⟩ := Int.eq_ofNat_of_zero_le hy.1
  rw [or_nat a b (by omega) (by omega)]
  have : a ||| b < 2 ^ 8 := Nat.or_lt_two_pow (by omega) (by omega)
  omega
theorem or_bit {x y : Int} (hx : 0 ≤ x ∧ x < 256) (hy : 0 ≤ y ∧ y < 256) (j : Nat) : bitB (Go.bits .or .u8 x y) j = (bitB x j || bitB y j) := by
  obtain ⟨a, rfl⟩ := Int.eq_ofNat_of_zero_le hx.1
  obtain ⟨b, rfl⟩ := Int.eq_ofNat_of_zero_le hy.1
  rw [or_nat a b (by omega) (by omega), bitB_test, bitB_test, bitB_test, Nat.testBit_or]
theorem andNot_in {x y : Int} (hx : 0 ≤ x ∧ x < 256) (hy : 0 ≤ y ∧ y < 256) : 0 ≤ Go.bits .andNot .u8 x y ∧ Go.bits .andNot .u8 x y < 256 := by
  obtain ⟨a, rfl⟩ := Int.eq_ofNat_of_zero_le hx.1
  obtain ⟨b, rfl⟩ := Int.eq_ofNat_of_zero_le hy.1
  obtain ⟨c, h1, h2, _⟩ := andNot_nat a b (by omega) (by omega)
  rw [h2]; omega
theorem andNot_bit {x y : Int} (hx : 0 ≤ x ∧ x < 256) (hy : 0 ≤ y ∧ y < 256) (j : Nat) (hj : j < 8) : bitB (Go.bits .andNot .u8 x y) j = (bitB x j && !bitB y j) := by
  obtain ⟨a, rfl⟩ := Int.eq_ofNat_of_zero_le hx.1
  obtain ⟨b, rfl⟩ := Int.eq_ofNat_of_zero_le hy.1
  obtain ⟨c, h1, h2, h3⟩ := andNot_nat a b (by omega) (by omega)
  rw [h2, bitB_test, bitB_test, bitB_test, h3 j hj]

theorem rd_zip (f : Int → Int → Int) : ∀ (a b : List Int) (i : Nat), i < a.length → b.length = a.length → rd (List.zipWith f a b) (i : Int) = f (rd a (i : Int)) (rd b (i : Int)) := by
  intro a b i hi hb
  unfold rd
  rw [Int.toNat_natCast, List.getD_eq_getElem?_getD, List.getD_eq_getElem?_getD, List.getD_eq_getElem?_getD, List.getElem?_eq_getElem (by simp; omega), List.getElem?_eq_getElem hi, List.getElem?_eq_getElem (by omega)]
  simp
theorem inS_zip (f : Int → Int → Int) (g : Bool → Bool → Bool) (hg : g false false = false) (hf : ∀ x y : Int, 0 ≤ x ∧ x < 256 → 0 ≤ y ∧ y < 256 → ∀ j, j < 8 → bitB (f x y) j = g (bitB x j) (bitB y j)) (a b : List Int) (ha : okB a = true) (hb : okB b = true) (hl : b.length = a.length) (t : Int) : inS (List.zipWith f a b) t = g (inS a t) (inS b t) := by
  unfold inS
  rw [List.length_zipWith, hl, Nat.min_self]
  by_cases h0 : 0 ≤ t
  · by_cases h1 : t / 8 < (a.length : Int)
    · obtain ⟨i, hi⟩ := Int.eq_ofNat_of_zero_le (show 0 ≤ t / 8 by omega)
      rw [decide_eq_true h0, decide_eq_true h1, hi, rd_zip f a b i (by omega) hl, hf _ _ (rd_nonneg ha _) (rd_nonneg hb _) _ (by omega)]
      simp
    · rw [decide_eq_false h1]; simp [hg]
  · rw [decide_eq_false h0]; simp [hg]
theorem okB_zip (f : Int → Int → Int) (hf : ∀ x y : Int, 0 ≤ x ∧ x < 256 → 0 ≤ y ∧ y < 256 → 0 ≤ f x y ∧ f x y < 256) : ∀ (a b : List Int), okB a = true → okB b = true → okB (List.zipWith f a b) = true := by
  intro a
  induction a with
  | nil => intro b _ _; rfl
  | cons x a ih =>
    intro b ha hb
    rcases b with _ | ⟨y, b⟩
    · rfl
    · have h1 := okB_mem ha x (by simp)
      have h2 := okB_mem hb y (by simp)
      have h3 := ih b (List.all_eq_true.2 fun z hz => by simpa using okB_mem ha z (by simp [hz])) (List.all_eq_true.2 fun z hz => by simpa using okB_mem hb z (by simp [hz]))
      show ((decide _) && (okB _)) = true
      rw [h3, Bool.and_true]
      exact decide_eq_true (hf x y h1 h2)
/-- When a set may be. -/
theorem ckS_of {n : Int} {s : List Int} (hs : okB s = true) (h0 : 1 ≤ n) (h1 : n ≤ 16) (hl : (s.length : Int) = (n + 7) / 8) (h : ∀ t : Nat, n ≤ t → inS s (t : Int) = false) : ckS n s = 0 := by
  rw [ckS_may n s hs, if_pos ⟨h0, h1⟩, if_pos]
  unfold mayS
  simp only [Bool.and_eq_true, decide_eq_true_eq, List.all_eq_true, Bool.not_eq_true']
  refine ⟨⟨⟨h0, h1⟩, hl⟩, fun t ht => h t ?_⟩
  have := (List.mem_range'_1.1 ht).1
  omega
/-- Two rows of bytes of one length are alike if their bits are. -/
theorem ext_inS (a b : List Int) (ha : okB a = true) (hb : okB b = true) (hl : a.length = b.length) (h : ∀ t : Nat, inS a (t : Int) = inS b (t : Int)) : a = b := by
  apply List.ext_getElem hl
  intro i h1 h2
  have e1 : rd a (i : Int) = a[i] := by unfold rd; rw [Int.toNat_natCast, List.getD_eq_getElem?_getD, List.getElem?_eq_getElem h1]; rfl
  have e2 : rd b (i : Int) = b[i] := by unfold rd; rw [Int.toNat_natCast, List.getD_eq_getElem?_getD, List.getElem?_eq_getElem h2]; rfl
  rw [← e1, ← e2]
  have r1 := rd_nonneg ha (i : Int)
  have r2 := rd_nonneg hb (i : Int)
  obtain ⟨x, hx⟩ := Int.eq_ofNat_of_zero_le r1.1
  obtain ⟨y, hy⟩ := Int.eq_ofNat_of_zero_le r2.1
  rw [hx, hy]
  congr 1
  apply Nat.eq_of_testBit_eq
  intro j
  by_cases hj : j < 8
  · have := h (8 * i + j)
    unfold inS at this
    rw [show (((8 * i + j : Nat) : Int)) / 8 = (i : Int) from by omega, show ((((8 * i + j : Nat) : Int)) % 8).toNat = j from by omega, hx, hy, decide_eq_true (show (0 : Int) ≤ ((8 * i + j : Nat) : Int) by omega), decide_eq_true (show (i : Int) < a.length by omega), decide_eq_true (show (i : Int) < b.length by omega), bitB_test, bitB_test] at this
    simpa using this
  · rw [Nat.testBit_lt_two_pow (Nat.lt_of_lt_of_le (show x < 2 ^ 8 by omega) (Nat.pow_le_pow_right (by decide) (by omega))), Nat.testBit_lt_two_pow (Nat.lt_of_lt_of_le (show y < 2 ^ 8 by omega) (Nat.pow_le_pow_right (by decide) (by omega)))]

theorem rd_set (s : List Int) (i j : Nat) (v : Int) (hi : i < s.length) : rd (s.set i v) (j : Int) = if j = i then v else rd s (j : Int) := by
  unfold rd
  rw [Int.toNat_natCast, List.getD_eq_getElem?_getD, List.getD_eq_getElem?_getD, List.getElem?_set]
  by_cases h : i = j
  · subst h; simp [hi]
  · rw [if_neg h, if_neg (fun e => h e.symm)]
theorem one_bit : ∀ k : Nat, k < 8 → 0 ≤ shl .u8 1 (k : Int) ∧ shl .u8 1 (k : Int) < 256 ∧ ∀ j : Nat, j < 8 → bitB (shl .u8 1 (k : Int)) j = decide (j = k) := by decide +kernel
theorem okB_set {s : List Int} (hs : okB s = true) (i : Nat) {v : Int} (hv : 0 ≤ v ∧ v < 256) : okB (s.set i v) = true := by
  refine List.all_eq_true.2 fun x hx => ?_
  rcases List.mem_or_eq_of_mem_set hx with h | h
  · simpa using okB_mem hs x h
  · subst h; simpa using hv
theorem addB_ok {s : List Int} (hs : okB s = true) {t : Int} (h0 : 0 ≤ t) : okB (addB s t) = true := by
  obtain ⟨k, hk⟩ := Int.eq_ofNat_of_zero_le (show 0 ≤ t % 8 by omega)
  have hb := one_bit k (by omega)
  unfold addB
  rw [hk]
  exact okB_set hs _ (or_in (rd_nonneg hs _) ⟨hb.1, hb.2.1⟩)
theorem addB_in {s : List Int} (hs : okB s = true) {t : Int} (h0 : 0 ≤ t) (h1 : t / 8 < (s.length : Int)) (u : Int) : inS (addB s t) u = (inS s u || decide (u = t)) := by
  obtain ⟨k, hk⟩ := Int.eq_ofNat_of_zero_le (show 0 ≤ t % 8 by omega)
  obtain ⟨q, hq⟩ := Int.eq_ofNat_of_zero_le (show 0 ≤ t / 8 by omega)
  have hb := one_bit k (by omega)
  unfold inS
  rw [addB_length]
  by_cases u0 : 0 ≤ u
  · by_cases u1 : u / 8 < (s.length : Int)
    · obtain ⟨j, hj⟩ := Int.eq_ofNat_of_zero_le (show 0 ≤ u % 8 by omega)
      obtain ⟨i, hi⟩ := Int.eq_ofNat_of_zero_le (show 0 ≤ u / 8 by omega)
      rw [decide_eq_true u0, decide_eq_true u1]
      unfold addB
      rw [hk, hq, hi, hj, Int.toNat_natCast, rd_set s q i _ (by omega), Int.toNat_natCast]
      by_cases e : i = q
      · subst e
        rw [if_pos rfl, or_bit (rd_nonneg hs _) ⟨hb.1, hb.2.1⟩, hb.2.2 j (by omega)]
        simp only [Bool.true_and]
        congr 1
        exact decide_eq_decide.2 ⟨fun h => by omega, fun h => by omega⟩
      · rw [if_neg e, decide_eq_false (show ¬ u = t by omega)]
        simp
    · rw [decide_eq_false u1, decide_eq_false (show ¬ u = t by omega)]; simp
  · rw [decide_eq_false u0, decide_eq_false (show ¬ u = t by omega)]; simp
theorem setF_all (l : List Int) : ∀ (s : List Int), okB s = true → (∀ t ∈ l, 0 ≤ t ∧ t / 8 < (s.length : Int)) → okB (setF s l) = true ∧ ∀ u : Int, inS (setF s l) u = (inS s u || decide (u ∈ l)) := by
  induction l with
  | nil => intro s hs _; exact ⟨hs, fun u => by simp [setF]⟩
  | cons t l ih =>
    intro s hs h
    have ht := h t (by simp)
    have := ih (addB s t) (addB_ok hs ht.1) (fun x hx => by rw [addB_length]; exact h x (by simp [hx]))
    refine ⟨this.1, fun u => ?_⟩
    show inS (setF (addB s t) l) u = _
    rw [this.2 u, addB_in hs ht.1 ht.2]
    by_cases e : u = t <;> by_cases m : u ∈ l <;> simp [e, m]
theorem okB_zeros (m : Nat) : okB (List.replicate m 0) = true := List.all_eq_true.2 fun x hx => by rw [List.eq_of_mem_replicate hx]; decide
theorem inS_zeros (m : Nat) (u : Int) : inS (List.replicate m 0) u = false := by
  unfold inS rd
  have : ∀ i : Nat, (List.replicate m (0 : Int)).getD i 0 = 0 := by
    intro i
    rw [List.getD_eq_getElem?_getD, List.getElem?_replicate]
    split <;> rfl
  rw [this]
  have h2 : bitB 0 (u % 8).toNat = false := by unfold bitB; simp
  rw [h2, Bool.and_false]
/-- A list's set. -/
theorem ofS_ok {n : Int} {l : List Int} (h : (ofS n l).2 = 0) : 1 ≤ n ∧ n ≤ 16 ∧ (∀ t ∈ l, 0 ≤ t ∧ t < n) ∧ okB (ofS n l).1 = true ∧ ckS n (ofS n l).1 = 0 ∧ ∀ u : Int, inS (ofS n l).1 u = decide (u ∈ l) := by
  unfold ofS at h
  by_cases hn : 1 ≤ n ∧ n ≤ 16
  · rw [if_pos hn] at h
    by_cases ha : l.any (outB n) = true
    · rw [if_pos ha] at h; simp at h
    · have hb := Bool.eq_false_iff.2 ha
      have hl : ∀ t ∈ l, 0 ≤ t ∧ t < n := by
        intro t ht
        have := List.any_eq_false.1 hb t ht
        simp [outB] at this
        omega
      have e : (ofS n l).1 = setF (List.replicate (if n ≤ 8 then 1 else 2) 0) l := by unfold ofS; rw [if_pos hn, if_neg ha]
      have hlen : ((List.replicate (if n ≤ 8 then 1 else 2) (0 : Int)).length : Int) = (n + 7) / 8 := by rw [List.length_replicate]; split <;> omega
      have := setF_all l (List.replicate (if n ≤ 8 then 1 else 2) 0) (okB_zeros _) (fun t ht => by have := hl t ht; rw [hlen]; omega)
      rw [e]
      have hi : ∀ u : Int, inS (setF (List.replicate (if n ≤ 8 then 1 else 2) 0) l) u = decide (u ∈ l) := fun u => by rw [this.2 u, inS_zeros]; simp
      refine ⟨hn.1, hn.2, hl, this.1, ckS_of this.1 hn.1 hn.2 (by rw [setF_length]; exact hlen) (fun t ht => ?_), hi⟩
      rw [hi]
      exact decide_eq_false fun hm => by have := hl _ hm; omega
  · rw [if_neg hn] at h; simp at h
theorem ofS_no {n : Int} {l : List Int} (h : (ofS n l).2 ≠ 0) : (ofS n l).1 = [] := by
  unfold ofS at h ⊢
  split
  · rename_i hn
    rw [if_pos hn] at h
    split
    · rfl
    · rename_i ha
      rw [if_neg ha] at h
      exact absurd rfl h
  · rfl
theorem mem_trk {n : Int} {s : List Int} (hs : okB s = true) (h : ckS n s = 0) (t : Int) : t ∈ trk 0 s ↔ 0 ≤ t ∧ t < n ∧ inS s t = true := by
  obtain ⟨h0, h1, _⟩ := ckS_zero hs h
  obtain ⟨m, rfl⟩ := Int.eq_ofNat_of_zero_le (show 0 ≤ n by omega)
  rw [trk_of hs h]
  simp only [List.mem_map, List.mem_filter, List.mem_range]
  constructor
  · rintro ⟨a, ⟨ha, hb⟩, rfl⟩
    exact ⟨by omega, by omega, hb⟩
  · rintro ⟨a, b, c⟩
    obtain ⟨q, rfl⟩ := Int.eq_ofNat_of_zero_le a
    exact ⟨q, ⟨by omega, c⟩, rfl⟩
theorem ofS_trk {n : Int} {s : List Int} (hs : okB s = true) (h : ckS n s = 0) : ofS n (trk 0 s) = (s, 0) := by
  obtain ⟨h0, h1, hl, hout⟩ := ckS_zero hs h
  have hin : ∀ t ∈ trk 0 s, 0 ≤ t ∧ t < n := fun t ht => by have := (mem_trk hs h t).1 ht; exact ⟨this.1, this.2.1⟩
  have h2 : (ofS n (trk 0 s)).2 = 0 := by
    unfold ofS
    rw [if_pos ⟨h0, h1⟩, if_neg]
    intro ha
    obtain ⟨t, ht, hb⟩ := List.any_eq_true.1 ha
    have := hin t ht
    simp [outB] at hb
    omega
  obtain ⟨_, _, _, ho, hc, hi⟩ := ofS_ok h2
  have hlen := (ckS_zero ho hc).2.2.1
  have hll : (ofS n (trk 0 s)).1.length = s.length := by rw [← hl] at hlen; exact_mod_cast hlen
  refine Prod.ext (ext_inS _ _ ho hs hll fun t => ?_) h2
  rw [hi]
  by_cases hm : (t : Int) ∈ trk 0 s
  · rw [decide_eq_true hm, ((mem_trk hs h _).1 hm).2.2]
  · rw [decide_eq_false hm]
    by_cases ht : (t : Int) < n
    · cases he : inS s (t : Int) with
      | false => rfl
      | true => exact absurd ((mem_trk hs h _).2 ⟨by omega, ht, he⟩) hm
    · exact (hout t (by omega)).symm
theorem trk_rising {n : Int} {s : List Int} (hs : okB s = true) (h : ckS n s = 0) : (trk 0 s).Pairwise (· < ·) := by
  obtain ⟨h0, h1, _⟩ := ckS_zero hs h
  obtain ⟨m, rfl⟩ := Int.eq_ofNat_of_zero_le (show 0 ≤ n by omega)
  rw [trk_of hs h, List.pairwise_map]
  refine List.Pairwise.imp ?_ ((List.pairwise_lt_range (n := m)).filter _)
  intro a b hab
  omega
end Go.Proofs.Ytpbnppeodoflcaa.E

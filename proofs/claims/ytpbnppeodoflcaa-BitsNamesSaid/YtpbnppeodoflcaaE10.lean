/- Sets of tracks: contracts in the program's words, the reference's functions too. -/
import Derived.Test.YtpbnppeodoflcaaE9
namespace Go.Proofs.Ytpbnppeodoflcaa.E
open Go.RowKit Go.Proofs.YtpbnppeodoflcaaW.PrintWords Go.Proofs.YtpbnppeodoflcaaW.PrintLast Go.Proofs.YtpbnppeodoflcaaW.PrintMore Go.Proofs.Ytpbnppeodoflcaa.K
set_option linter.unusedVariables false
set_option linter.unusedSimpArgs false

theorem count_loop (s : List Int) (hs : okB s = true) (hl : s.length ≤ 2) (d : Nat) : ∀ (k i : Nat) (acc : Int), 0 ≤ acc → acc ≤ 8 * (i : Int) → i ≤ s.length → s.length - i = d →
    PCt.bits_Count.l0 (k + 1 + d) acc s (s.length : Int) (i : Int) = some (acc + ((trk 0 (s.drop i)).length : Int), 0) := by
  induction d with
  | zero =>
    intro k i acc ha0 ha h0 hd
    simp only [Nat.add_zero, PCt.bits_Count.l0]
    rw [if_neg (by omega), List.drop_eq_nil_of_le (by omega)]
    simp [trk]
  | succ d ih =>
    intro k i acc ha0 ha h0 hd
    rw [show k + 1 + (d + 1) = (k + 1 + d) + 1 from rfl]
    simp only [PCt.bits_Count.l0]
    rw [if_pos (by omega), if_pos (by omega), if_pos (by omega)]
    have hr := rd_nonneg hs (i : Int)
    have hd2 : s.drop i = rd s (i : Int) :: s.drop (i + 1) := by
      rw [List.drop_eq_getElem_cons (by omega)]
      unfold rd
      rw [Int.toNat_natCast, List.getD_eq_getElem?_getD, List.getElem?_eq_getElem (by omega)]
      rfl
    obtain ⟨c, hc⟩ := Int.eq_ofNat_of_zero_le hr.1
    rw [hd2, hc, ones_tells c (by omega)]
    simp only [Option.bind_some]
    have hbl : (bl (c : Int)).length ≤ 8 := by
      unfold bl
      rw [List.length_map]
      exact List.length_filter_le _ _
    rw [wrap64_id (x := acc + _) (by omega) (by omega), wrap64_id (x := (i : Int) + 1) (by omega) (by omega), show (i : Int) + 1 = ((i + 1 : Nat) : Int) from by omega, ih k (i + 1) _ (by omega) (by omega) (by omega) (by omega)]
    simp only [trk, List.length_append, List.length_map]
    have hsh : ∀ (l : List Int) (o o' : Int), (trk o l).length = (trk o' l).length := by
      intro l
      induction l with
      | nil => intro o o'; rfl
      | cons a l ih2 => intro o o'; simp only [trk, List.length_append, List.length_map]; rw [ih2 (o + 8) (o' + 8)]
    rw [hsh (s.drop (i + 1)) (0 + 8) 0]
    congr 2
    omega
/-- How many tracks a set has, or the error. -/
def cntS (n : Int) (s : List Int) : Int × Int := if ckS n s = 0 then (((trk 0 s).length : Int), 0) else (0, ckS n s)
theorem count_tells (n : Int) (s : List Int) (hs : okB s = true) : PCt.bits_Count.f 3 n s = some (cntS n s) := by
  unfold PCt.bits_Count.f bits_Check.f cntS
  simp only [Option.bind_some]
  by_cases h : ckS n s = 0
  · rw [if_pos h, if_pos h]
    have h2 := (ckS_len h).1
    have := count_loop s hs h2 s.length (2 - s.length) 0 0 (by omega) (by omega) (by omega) (by omega)
    rw [show 2 - s.length + 1 + s.length = 3 from by omega, show ((0 : Nat) : Int) = 0 from rfl] at this
    rw [this]
    simp
  · rw [if_neg h, if_neg h]
theorem Behind_loop (n from_ : Nat) (s : List Int) (hs : okB s = true) (hn : n ≤ 16) (hf : from_ < n) (d : Nat) : ∀ (k : Nat) (i : Nat), i ≤ n → n - i = d →
    PR3.catamaranref03_Behind.l0 (k + 10 + d) (n : Int) s (from_ : Int) (i : Int) = some ((((List.range' i (n - i)).map fun i => (((from_ + i) % n : Nat) : Int)).find? fun t => inS s t).getD (-1)) := by
  induction d with
  | zero =>
    intro k i h0 hd
    rw [show k + 10 + 0 = (k + 9) + 1 from rfl]
    simp only [PR3.catamaranref03_Behind.l0]
    rw [if_neg (by omega), hd]
    rfl
  | succ d ih =>
    intro k i h0 hd
    rw [show k + 10 + (d + 1) = (k + 10 + d) + 1 from rfl]
    simp only [PR3.catamaranref03_Behind.l0]
    have e1 : (wrap64 ((from_ : Int) + (i : Int))).tmod (n : Int) = (((from_ + i) % n : Nat) : Int) := by
      rw [wrap64_id (by omega) (by omega), Int.tmod_eq_emod_of_nonneg (by omega)]
      push_cast
      rfl
    have hlt : (from_ + i) % n < n := Nat.mod_lt _ (by omega)
    rw [if_pos (by omega), if_neg (by omega), e1, show k + 10 + d = (k + 1 + d) + 9 from by omega, In_tells s hs _ (by omega) (by omega), show (k + 1 + d) + 9 = k + 10 + d from by omega]
    simp only [Option.bind_some]
    rw [show n - i = (n - (i + 1)) + 1 from by omega, List.range'_succ, List.map_cons]
    cases hI : inS s (((from_ + i) % n : Nat) : Int) with
    | true => rw [if_pos rfl, List.find?_cons_of_pos (by simpa using hI)]; rfl
    | false =>
      rw [if_neg (by simp), wrap64_id (x := (i : Int) + 1) (by omega) (by omega), show (i : Int) + 1 = ((i + 1 : Nat) : Int) from by omega, ih k (i + 1) (by omega) (by omega), List.find?_cons_of_neg (by rw [hI]; decide)]
theorem fst1_head (l : List Int) (h : ∀ x ∈ l, 0 ≤ x) : fst1 l = l.head?.getD (-1) := by
  rcases l with _ | ⟨x, l⟩
  · rfl
  · have hx := h x (by simp)
    unfold fst1
    rw [List.foldl_cons, if_pos (by decide)]
    show _ = x
    clear h
    induction l with
    | nil => rfl
    | cons y l ih => rw [List.foldl_cons, if_neg (by omega), ih]
theorem find_map_cast (l : List Nat) (p : Int → Bool) : (l.map fun (t : Nat) => (t : Int)).find? p = (l.find? fun (t : Nat) => p (t : Int)).map fun (t : Nat) => (t : Int) := by
  rw [List.find?_map]; rfl
theorem Behind_tells (n from_ : Nat) (s : List Int) (hs : okB s = true) (hc : ckS n s = 0) (hf : from_ < n) (k : Nat) : PR3.catamaranref03_Behind.f (k + 40) (n : Int) s (from_ : Int) = some (nxS s (from_ : Int)) := by
  obtain ⟨h0, h1, _⟩ := ckS_zero hs hc
  unfold PR3.catamaranref03_Behind.f
  have := Behind_loop n from_ s hs (by omega) hf n (k + 30 - n) 0 (by omega) (by omega)
  rw [show k + 30 - n + 10 + n = k + 40 from by omega, show ((0 : Nat) : Int) = 0 from rfl] at this
  rw [this]
  congr 1
  have hL : ((List.range' 0 (n - 0)).map fun i => (((from_ + i) % n : Nat) : Int)) = (List.range' from_ (n - from_) ++ List.range from_).map fun (t : Nat) => (t : Int) := by
    have : List.range' 0 (n - 0) = List.range' 0 (n - from_) ++ List.range' (n - from_) from_ := by
      have := List.range'_append_1 (s := 0) (m := n - from_) (n := from_)
      rw [Nat.zero_add] at this
      rw [this]; congr 1; omega
    rw [this, List.map_append, List.map_append]
    congr 1
    · rw [show List.range' from_ (n - from_) = (List.range' 0 (n - from_)).map (from_ + ·) from by rw [List.map_add_range']; rfl, List.map_map]
      refine List.map_congr_left fun i hi => ?_
      simp only [List.mem_range'_1] at hi
      simp only [Function.comp]
      rw [Nat.mod_eq_of_lt (by omega)]
    · rw [show List.range' (n - from_) from_ = (List.range from_).map ((n - from_) + ·) from by rw [List.range_eq_range', List.map_add_range']; rfl, List.map_map]
      refine List.map_congr_left fun i hi => ?_
      have hi' := List.mem_range.1 hi
      simp only [Function.comp]
      rw [show from_ + (n - from_ + i) = i + n from by omega, Nat.add_mod_right, Nat.mod_eq_of_lt (by omega)]
  rw [hL]
  have hT : trk 0 s = ((List.range from_).filter fun (t : Nat) => inS s (t : Int)).map (fun (t : Nat) => (t : Int)) ++ ((List.range' from_ (n - from_)).filter fun (t : Nat) => inS s (t : Int)).map (fun (t : Nat) => (t : Int)) := by
    rw [trk_of hs hc, ← List.map_append, ← List.filter_append]
    congr 2
    rw [List.range_eq_range', List.range_eq_range']
    have := List.range'_append_1 (s := 0) (m := from_) (n := n - from_)
    rw [Nat.zero_add] at this
    rw [this]; congr 1; omega
  unfold nxS
  have hpos : ∀ x ∈ trk 0 s, 0 ≤ x := by
    rw [trk_of hs hc]
    intro x hx
    obtain ⟨t, _, rfl⟩ := List.mem_map.1 hx
    omega
  have hA : (((List.range from_).filter fun (t : Nat) => inS s (t : Int)).map (fun (t : Nat) => (t : Int))).find? (fun x => decide ((from_ : Int) ≤ x)) = none :=
    List.find?_eq_none.2 (fun x hx => by
      obtain ⟨t, ht, rfl⟩ := List.mem_map.1 hx
      have := List.mem_range.1 (List.mem_filter.1 ht).1
      simp; omega)
  have hB : (((List.range' from_ (n - from_)).filter fun (t : Nat) => inS s (t : Int)).map (fun (t : Nat) => (t : Int))).find? (fun x => decide ((from_ : Int) ≤ x)) = (((List.range' from_ (n - from_)).filter fun (t : Nat) => inS s (t : Int)).map (fun (t : Nat) => (t : Int))).head? := by
    generalize hg : ((List.range' from_ (n - from_)).filter fun (t : Nat) => inS s (t : Int)).map (fun (t : Nat) => (t : Int)) = B
    rcases B with _ | ⟨x, B⟩
    · rfl
    · have hx : x ∈ ((List.range' from_ (n - from_)).filter fun (t : Nat) => inS s (t : Int)).map (fun (t : Nat) => (t : Int)) := by rw [hg]; simp
      obtain ⟨t, ht, rfl⟩ := List.mem_map.1 hx
      have := (List.mem_range'_1.1 (List.mem_filter.1 ht).1).1
      rw [List.find?_cons_of_pos (by simp; omega)]
      rfl
  rw [fst1_head _ hpos, hT]
  rw [List.find?_append (xs := ((List.range from_).filter fun (t : Nat) => inS s (t : Int)).map (fun (t : Nat) => (t : Int))), hA, Option.none_or]
  rw [hB, List.head?_append, find_map_cast, List.find?_append, List.head?_map, List.head?_map, List.head?_filter, List.head?_filter]
  cases (List.range' from_ (n - from_)).find? (fun (t : Nat) => inS s (t : Int)) <;> cases (List.range from_).find? (fun (t : Nat) => inS s (t : Int)) <;> rfl
/-- The next track, or the error. -/
def nextS (n : Int) (s : List Int) (t : Int) : Int × Int := if (hasS n s t).2 = 0 then (nxS s t, 0) else (0, (hasS n s t).2)
theorem hasS_ok {n : Int} {s : List Int} {t : Int} (h : (hasS n s t).2 = 0) : ckS n s = 0 ∧ 0 ≤ t ∧ t < n := by
  unfold hasS at h
  split at h
  · rename_i hc
    split at h
    · simp at h
    · exact ⟨hc, by omega, by omega⟩
  · rename_i hc
    exact absurd h hc
theorem Next_tells (n : Int) (s : List Int) (hs : okB s = true) (t : Int) (h0 : -9223372036854775808 ≤ t) (h1 : t ≤ 9223372036854775807) (k : Nat) : PR3.catamaranref03_Next.f (k + 40) n s t = some (nextS n s t) := by
  unfold PR3.catamaranref03_Next.f nextS
  rw [Has_tells n s hs t h0 h1 k]
  simp only [Option.bind_some]
  by_cases h : (hasS n s t).2 = 0
  · rw [if_pos h, if_pos h]
    obtain ⟨hc, h2, h3⟩ := hasS_ok h
    obtain ⟨m, rfl⟩ := Int.eq_ofNat_of_zero_le (show 0 ≤ n by omega)
    obtain ⟨q, rfl⟩ := Int.eq_ofNat_of_zero_le h2
    rw [Behind_tells m q s hs hc (by omega) k]
    rfl
  · rw [if_neg h, if_neg h]
theorem next_tells (n : Int) (s : List Int) (hs : okB s = true) (t : Int) : bits_Next.f n s t = some (nextS n s t) := by
  unfold bits_Next.f nextS
  rw [if_pos hs, has_tells n s hs t]
  simp only [Option.bind_some]
  split <;> rfl
theorem Same_loop (a b : List Int) (hl : a.length = b.length) (hm : a.length ≤ 9223372036854775806) (d : Nat) : ∀ (k i : Nat), i ≤ a.length → a.length - i = d →
    PR3.catamaranref03_SameInts.l0 (k + 1 + d) a b (i : Int) = some (decide (a.drop i = b.drop i)) := by
  induction d with
  | zero =>
    intro k i h0 hd
    simp only [Nat.add_zero, PR3.catamaranref03_SameInts.l0]
    rw [if_neg (by omega), List.drop_eq_nil_of_le (by omega), List.drop_eq_nil_of_le (by omega)]
    simp
  | succ d ih =>
    intro k i h0 hd
    rw [show k + 1 + (d + 1) = (k + 1 + d) + 1 from rfl]
    simp only [PR3.catamaranref03_SameInts.l0]
    rw [if_pos (by omega), if_pos (by omega), if_pos (by omega)]
    have hx : ∀ (l : List Int) (h : i < l.length), l.drop i = rd l (i : Int) :: l.drop (i + 1) := by
      intro l h
      rw [List.drop_eq_getElem_cons h]
      unfold rd
      rw [Int.toNat_natCast, List.getD_eq_getElem?_getD, List.getElem?_eq_getElem h]
      rfl
    rw [hx a (by omega), hx b (by omega)]
    by_cases he : rd a (i : Int) = rd b (i : Int)
    · rw [if_pos he, wrap64_id (by omega) (by omega), show (i : Int) + 1 = ((i + 1 : Nat) : Int) from by omega, ih k (i + 1) (by omega) (by omega)]
      simp [he]
    · rw [if_neg he]
      simp [he]
theorem Same_tells (a b : List Int) (hm : a.length ≤ 9223372036854775806) (k : Nat) (hk : a.length < k) : PR3.catamaranref03_SameInts.f k a b = some (decide (a = b)) := by
  unfold PR3.catamaranref03_SameInts.f
  by_cases hl : a.length = b.length
  · rw [if_pos (by omega)]
    have := Same_loop a b hl hm a.length (k - 1 - a.length) 0 (by omega) (by omega)
    rw [show k - 1 - a.length + 1 + a.length = k from by omega, show ((0 : Nat) : Int) = 0 from rfl] at this
    rw [this]
    rfl
  · rw [if_neg (by omega)]
    have : ¬ a = b := fun h => hl (by rw [h])
    simp [this]
end Go.Proofs.Ytpbnppeodoflcaa.E

/- Layer 3 in plain Lean, more: what a field decodes to. -/
import Derived.Test.YtmmhokcdchhciaaSpecG
import Derived.Test.YtmmhokcdchhciaaSpecF
namespace Go.Proofs.Ytmmhokcdchhciaa

theorem nibr_get (b : Bs) (i : Nat) (h : i < b.length) : (nibr b).getD (2 * i) 0 = bN b (b.length - 1 - i) % 16 ∧ (nibr b).getD (2 * i + 1) 0 = bN b (b.length - 1 - i) / 16 := by
  have key : ∀ (l : Bs) (i : Nat), i < l.length → (l.flatMap fun x : UInt8 => [x.toNat % 16, x.toNat / 16]).getD (2 * i) 0 = bN l i % 16 ∧ (l.flatMap fun x : UInt8 => [x.toNat % 16, x.toNat / 16]).getD (2 * i + 1) 0 = bN l i / 16 := by
    intro l
    induction l with
    | nil => intro i h; simp at h
    | cons a t ih =>
      intro i h
      cases i with
      | zero => exact ⟨rfl, rfl⟩
      | succ k =>
        have := ih k (by simpa using h)
        rw [show 2 * (k + 1) = 2 * k + 1 + 1 from by omega]
        simp only [List.flatMap_cons, List.cons_append, List.nil_append, List.getD_cons_succ]
        exact this
  have := key b.reverse i (by simpa using h)
  have hb : bN b.reverse i = bN b (b.length - 1 - i) := by
    rw [bN_get _ _ (by simpa using h), bN_get _ _ (by omega), List.getElem_reverse]
  rw [hb] at this
  exact this
theorem nibr_lt16 (b : Bs) (i : Nat) : (nibr b).getD i 0 < 16 := by
  rw [List.getD_eq_getElem?_getD]
  cases h : (nibr b)[i]? with
  | none => simp
  | some x =>
    simp only [Option.getD_some]
    have := List.mem_of_getElem? h
    unfold nibr at this
    obtain ⟨y, _, hy⟩ := List.mem_flatMap.1 this
    have := UInt8.toNat_lt y
    simp at hy
    omega

theorem bN_fld (k : Nat) (p : List Nat) (hp : ∀ i, p.getD i 0 < 16) (j : Nat) (h : j < k) : bN (fld k p) j = 16 * p.getD (2 * k - 1 - 2 * j) 0 + p.getD (2 * k - 2 - 2 * j) 0 := by
  rw [bN_get _ _ (by rw [fld_length]; exact h), fld_get]
  have h1 := hp (2 * k - 1 - 2 * j)
  have h2 := hp (2 * k - 2 - 2 * j)
  exact toNat_ofNat (by omega)
theorem nibr_fld (k : Nat) (p : List Nat) (hp : ∀ i, p.getD i 0 < 16) (i : Nat) (h : i < 2 * k) : (nibr (fld k p)).getD i 0 = p.getD i 0 := by
  have hj : i / 2 < (fld k p).length := by rw [fld_length]; omega
  obtain ⟨n1, n2⟩ := nibr_get (fld k p) (i / 2) hj
  rw [fld_length] at n1 n2 hj
  rw [bN_fld k p hp _ (by omega), show 2 * k - 1 - 2 * (k - 1 - i / 2) = 2 * (i / 2) + 1 from by omega, show 2 * k - 2 - 2 * (k - 1 - i / 2) = 2 * (i / 2) from by omega] at n1 n2
  have h1 := hp (2 * (i / 2))
  have h2 := hp (2 * (i / 2) + 1)
  rcases Nat.mod_two_eq_zero_or_one i with h3 | h3
  · rw [show 2 * (i / 2) = i from by omega] at n1 h1
    rw [n1]; omega
  · rw [show 2 * (i / 2) + 1 = i from by omega] at n2 h2
    rw [n2]; omega

theorem valsR_get (d : Bs) (j : Nat) : (valsR d).getD j 0 = if j < d.length then bN d (d.length - 1 - j) - 48 else 0 := by
  rw [List.getD_eq_getElem?_getD]
  by_cases h : j < d.length
  · rw [if_pos h, List.getElem?_eq_getElem (by simp [valsR]; exact h), Option.getD_some, bN_get _ _ (by omega)]
    simp [valsR]
  · rw [if_neg h, List.getElem?_eq_none (by simp [valsR]; omega)]; rfl

theorem strip_zeros (d : Bs) (h1 : 1 ≤ d.length) (h2 : headOk d) : ∀ m, strip (List.replicate m 48 ++ d) = d
  | 0 => by
    cases d with
    | nil => simp at h1
    | cons a t =>
      cases t with
      | nil => rfl
      | cons b l =>
        have : a ≠ 48 := by
          rcases h2 with h | h
          · simp at h
          · simpa using h
        simp [strip, this]
  | m + 1 => by
    have ih := strip_zeros d h1 h2 m
    rw [List.replicate_succ, List.cons_append]
    cases hh : List.replicate m (48 : UInt8) ++ d with
    | nil =>
      rw [hh] at ih
      have := congrArg List.length hh
      rw [List.length_append, List.length_nil] at this
      omega
    | cons b l => rw [hh] at ih; simp only [strip, if_true]; exact ih

theorem valid_parts (d : Bs) (h : validS d = true) : 1 ≤ d.length ∧ d.length ≤ 31 ∧ headOk d ∧ ∀ i, i < d.length → 48 ≤ bN d i ∧ bN d i ≤ 57 := by
  unfold validS at h
  simp only [Bool.and_eq_true, decide_eq_true_eq, List.all_eq_true] at h
  obtain ⟨⟨⟨a, b⟩, c⟩, e⟩ := h
  refine ⟨a, b, ?_, fun i hi => ?_⟩
  · unfold headOk
    by_cases h1 : 1 < d.length
    · refine .inr fun h2 => ?_
      rw [decide_eq_true h1, h2] at c
      simp at c
    · exact .inl (by omega)
  · rw [bN_get _ _ hi]
    exact e _ (List.getElem_mem hi)

theorem decS_fld (k : Nat) (neg : Bool) (d : Bs) (h1 : 1 ≤ k) (h2 : k ≤ 16) (hv : validS d = true) (hl : d.length ≤ 2 * k - 1) : decS (fld k (sgn neg :: valsR d)) = ((neg, d), true) := by
  obtain ⟨v1, v2, v3, v4⟩ := valid_parts d hv
  have hs : sgn neg = 12 ∨ sgn neg = 13 := by cases neg <;> simp [sgn]
  have hg : ∀ j, (sgn neg :: valsR d).getD (j + 1) 0 = if j < d.length then bN d (d.length - 1 - j) - 48 else 0 := fun j => by rw [List.getD_cons_succ, valsR_get]
  have hlt : ∀ j, (sgn neg :: valsR d).getD (j + 1) 0 ≤ 9 := by
    intro j
    rw [hg]
    split
    · have := v4 (d.length - 1 - j) (by omega); omega
    · omega
  have hp : ∀ i, (sgn neg :: valsR d).getD i 0 < 16 := by
    intro i
    cases i with
    | zero => rw [List.getD_cons_zero]; omega
    | succ j => have := hlt j; omega
  have hn := nibr_fld k _ hp
  have h0 := hn 0 (by omega)
  rw [List.getD_cons_zero] at h0
  have hnl : (nibr (fld k (sgn neg :: valsR d))).length = 2 * k := by rw [nibr_length, fld_length]
  have ht : ∀ q ∈ (nibr (fld k (sgn neg :: valsR d))).tail, q ≤ 9 := by
    intro q hq
    obtain ⟨i, hi, rfl⟩ := List.getElem_of_mem hq
    rw [List.length_tail, hnl] at hi
    have h3 := hn (i + 1) (by omega)
    rw [List.getD_eq_getElem?_getD, List.getElem?_eq_getElem (by omega), Option.getD_some] at h3
    rw [List.getElem_tail, h3]
    exact hlt i
  rw [decS_good _ (by rw [fld_length]; unfold okSize; simp; omega) (by rw [h0]; omega) ht, h0, fld_length]
  have hb : (sgn neg == 11 || sgn neg == 13) = neg := by cases neg <;> rfl
  rw [hb]
  have htx : txtK (2 * k - 1) (nibr (fld k (sgn neg :: valsR d))) = List.replicate (2 * k - 1 - d.length) 48 ++ d := by
    refine List.ext_getElem (by rw [txtK_length]; simp; omega) fun i h3 h4 => ?_
    rw [txtK_length] at h3
    rw [txtK_get, if_pos (by omega), hn _ (by omega), show 2 * k - 1 - i = (2 * k - 2 - i) + 1 from by omega, hg, List.getElem_append]
    by_cases hc : i < 2 * k - 1 - d.length
    · rw [if_neg (by omega), dif_pos (by simpa using hc), List.getElem_replicate]; rfl
    · have hi : i - (2 * k - 1 - d.length) < d.length := by omega
      rw [if_pos (by omega), dif_neg (by simpa using hc), show d.length - 1 - (2 * k - 2 - i) = i - (2 * k - 1 - d.length) from by omega]
      have h5 := v4 _ hi
      refine UInt8.toNat_inj.1 ?_
      rw [toNat_ofNat (by omega)]
      have h6 : (List.replicate (2 * k - 1 - d.length) (48 : UInt8)).length = 2 * k - 1 - d.length := by simp
      simp only [h6]
      rw [← bN_get d _ hi]
      omega
  rw [htx, strip_zeros d v1 v3]

/-- the field depends on the digits alone -/
theorem fld_congr (k : Nat) (p q : List Nat) (h : ∀ i, i < 2 * k → p.getD i 0 = q.getD i 0) : fld k p = fld k q := by
  refine List.ext_getElem (by simp [fld]) fun i h1 h2 => ?_
  rw [fld_length] at h1
  rw [fld_get, fld_get, h _ (by omega), h _ (by omega)]

/-- a zoned field, packed -/
theorem pack_zoned (neg : Bool) (d : Bs) (n k : Nat) (hv : validS d = true) (hl : d.length ≤ n) (hn : 1 ≤ n) (hn2 : n ≤ 16) (hk : 1 ≤ k) (hk2 : k ≤ 16) : packS (zonF neg n (valsR d)) k = fld k (sgn neg :: valsR d) := by
  obtain ⟨v1, v2, v3, v4⟩ := valid_parts d hv
  have hzl : (zonF neg n (valsR d)).length = n := by simp [zonF]
  have hg : ∀ i (h : i < (zonF neg n (valsR d)).length), (zonF neg n (valsR d))[i] = UInt8.ofNat (16 * (if i = n - 1 then sgn neg else 15) + (valsR d).getD (n - 1 - i) 0) := fun i h => by simp [zonF]
  have hlt : ∀ j, (valsR d).getD j 0 ≤ 9 := by
    intro j
    rw [valsR_get]
    split
    · have := v4 (d.length - 1 - j) (by omega); omega
    · omega
  have hs : sgn neg = 12 ∨ sgn neg = 13 := by cases neg <;> simp [sgn]
  unfold packS
  rw [hzl, show okSize n = true from by unfold okSize; simp; omega, show okSize k = true from by unfold okSize; simp; omega]
  simp only [Bool.and_self, if_true, Int.toNat_natCast]
  refine fld_congr k _ _ fun j hj => ?_
  cases j with
  | zero =>
    rw [List.getD_cons_zero, List.getD_cons_zero, List.getLast?_eq_getElem?, hzl, List.getElem?_eq_getElem (by omega), Option.getD_some, hg, if_pos rfl]
    have := hlt (n - 1 - (n - 1))
    rw [toNat_ofNat (by omega)]
    omega
  | succ i =>
    rw [List.getD_cons_succ, List.getD_cons_succ]
    by_cases hi : i < n
    · rw [List.getD_eq_getElem?_getD, List.getElem?_eq_getElem (by simp [hzl]; exact hi), Option.getD_some, List.getElem_map, List.getElem_reverse, hg]
      rw [show n - 1 - ((zonF neg n (valsR d)).length - 1 - i) = i from by rw [hzl]; omega]
      have := hlt i
      rw [toNat_ofNat (by split <;> omega)]
      split <;> omega
    · rw [List.getD_eq_getElem?_getD, List.getElem?_eq_none (by simp [hzl]; omega), valsR_get, if_neg (by omega)]; rfl

end Go.Proofs.Ytmmhokcdchhciaa

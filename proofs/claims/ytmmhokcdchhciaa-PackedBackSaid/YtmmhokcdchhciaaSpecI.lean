/- Layer 3 in plain Lean, more: a valid field, decoded and encoded again. -/
import Derived.Test.YtmmhokcdchhciaaSpecH
namespace Go.Proofs.Ytmmhokcdchhciaa

/-- the field of any valid number decodes to some number -/
theorem decS_fld_ok (k : Nat) (neg : Bool) (d : Bs) (h1 : 1 ≤ k) (h2 : k ≤ 16) (hv : validS d = true) : ∃ n, decS (fld k (sgn neg :: valsR d)) = (n, true) := by
  obtain ⟨v1, v2, v3, v4⟩ := valid_parts d hv
  have hs : sgn neg = 12 ∨ sgn neg = 13 := by cases neg <;> simp [sgn]
  have hlt : ∀ j, (sgn neg :: valsR d).getD (j + 1) 0 ≤ 9 := by
    intro j
    rw [List.getD_cons_succ, valsR_get]
    split
    · have := v4 (d.length - 1 - j) (by omega); omega
    · omega
  have hp : ∀ i, (sgn neg :: valsR d).getD i 0 < 16 := by
    intro i
    cases i with
    | zero => rw [List.getD_cons_zero]; omega
    | succ j => have := hlt j; omega
  have hn := nibr_fld k _ hp
  have h0 := hn 0 (by omega)
  rw [List.getD_cons_zero] at h0
  have hnl : (nibr (fld k (sgn neg :: valsR d))).length = 2 * k := by rw [nibr_length, fld_length]
  have ht : ∀ q ∈ (nibr (fld k (sgn neg :: valsR d))).tail, q ≤ 9 := by
    intro q hq
    obtain ⟨i, hi, rfl⟩ := List.getElem_of_mem hq
    rw [List.length_tail, hnl] at hi
    have h3 := hn (i + 1) (by omega)
    rw [List.getD_eq_getElem?_getD, List.getElem?_eq_getElem (by omega), Option.getD_some] at h3
    rw [List.getElem_tail, h3]
    exact hlt i
  exact ⟨_, decS_good _ (by rw [fld_length]; unfold okSize; simp; omega) (by rw [h0]; omega) ht⟩

theorem strip_length : ∀ t : Bs, (strip t).length ≤ t.length ∧ (t ≠ [] → 1 ≤ (strip t).length)
  | [] => ⟨Nat.le_refl _, fun h => absurd rfl h⟩
  | [c] => ⟨Nat.le_refl _, fun _ => Nat.le_refl _⟩
  | c :: d :: l => by
    have ih := strip_length (d :: l)
    have i2 := ih.2 (by simp)
    simp only [strip]
    split
    · exact ⟨Nat.le_trans ih.1 (by simp), fun _ => i2⟩
    · exact ⟨Nat.le_refl _, fun _ => by simp⟩
theorem strip_head : ∀ t : Bs, headOk (strip t)
  | [] => .inl (by simp [strip])
  | [c] => .inl (by simp [strip])
  | c :: d :: l => by
    have ih := strip_head (d :: l)
    simp only [strip]
    split
    · exact ih
    · rename_i h; exact .inr (by simpa using h)
theorem strip_mem : ∀ (t : Bs) (x : UInt8), x ∈ strip t → x ∈ t
  | [], _, h => h
  | [c], _, h => h
  | c :: d :: l, x, h => by
    simp only [strip] at h
    split at h
    · exact List.mem_cons_of_mem _ (strip_mem (d :: l) x h)
    · exact h
theorem strip_vals : ∀ (t : Bs) (j : Nat), (valsR (strip t)).getD j 0 = (valsR t).getD j 0
  | [], _ => rfl
  | [c], _ => rfl
  | c :: d :: l, j => by
    have ih := strip_vals (d :: l) j
    simp only [strip]
    split
    · rename_i h
      rw [ih, h]
      have e : valsR (48 :: d :: l) = valsR (d :: l) ++ [0] := by simp [valsR]
      rw [e, List.getD_eq_getElem?_getD, List.getD_eq_getElem?_getD]
      by_cases hj : j < (valsR (d :: l)).length
      · rw [List.getElem?_append_left hj]
      · rw [List.getElem?_eq_none (by omega), List.getElem?_append_right (by omega)]
        cases hk : j - (valsR (d :: l)).length with
        | zero => rfl
        | succ m => rfl
    · rfl

theorem decS_cases (b : Bs) : decS b = ((false, []), false) ∨ okSize b.length = true ∧ 10 ≤ (nibr b).getD 0 0 ∧ (∀ q ∈ (nibr b).tail, q ≤ 9) ∧
    decS b = (((nibr b).getD 0 0 == 11 || (nibr b).getD 0 0 == 13, strip ((nibr b).tail.reverse.map fun d => UInt8.ofNat (48 + d))), true) := by
  rw [decS_def]
  by_cases h : (okSize b.length && decide (10 ≤ (nibr b).getD 0 0) && (nibr b).tail.all (· ≤ 9)) = true
  · rw [if_pos h]
    simp only [Bool.and_eq_true, decide_eq_true_eq, List.all_eq_true] at h
    exact .inr ⟨h.1.1, h.1.2, h.2, rfl⟩
  · rw [if_neg h]; exact .inl rfl

/-- What a valid field's number is, and the field that it is encoded as again. -/
theorem back (b : Bs) (L : Nat) (hL : b.length = L) (ng : Bool) (dg : Bs) (h : decS b = ((ng, dg), true)) :
    1 ≤ L ∧ L ≤ 16 ∧ dg.length ≤ 31 ∧ encS ng dg L = (fld L (sgn ng :: valsR dg), false) ∧
    (∀ i, i + 1 < L → bN (fld L (sgn ng :: valsR dg)) i = bN b i) ∧ bN (fld L (sgn ng :: valsR dg)) (L - 1) / 16 = bN b (L - 1) / 16 ∧ bN (fld L (sgn ng :: valsR dg)) (L - 1) % 16 = sgn ng := by
  rcases decS_cases b with e | ⟨h1, h2, h3, e⟩
  · rw [e] at h; cases h
  rw [e] at h
  obtain ⟨m, em, hm1, hm2⟩ : ∃ m : Nat, (b.length : Int) = m ∧ 1 ≤ m ∧ m ≤ 16 := by
    unfold okSize at h1; simp only [Bool.and_eq_true, decide_eq_true_eq] at h1; exact ⟨b.length, rfl, by omega, by omega⟩
  have hm : m = L := by omega
  subst hm
  have hdg : strip ((nibr b).tail.reverse.map fun d => UInt8.ofNat (48 + d)) = dg := congrArg (fun x : (Bool × Bs) × Bool => x.1.2) h
  obtain ⟨t, ht⟩ : ∃ t, t = (nibr b).tail.reverse.map fun d => UInt8.ofNat (48 + d) := ⟨_, rfl⟩
  rw [← ht] at hdg
  have hnl : (nibr b).length = 2 * m := by rw [nibr_length, hL]
  have htl : t.length = 2 * m - 1 := by rw [ht]; simp [hnl]
  have hd : dg.length ≤ 2 * m - 1 := by rw [← hdg, ← htl]; exact (strip_length t).1
  have hmem : ∀ x ∈ dg, 48 ≤ x.toNat ∧ x.toNat ≤ 57 := by
    intro x hx
    rw [← hdg] at hx
    have := strip_mem t x hx
    rw [ht] at this
    obtain ⟨q, hq, rfl⟩ := List.mem_map.1 this
    have := h3 q (by simpa using hq)
    rw [toNat_ofNat (by omega)]; omega
  have hval : ∀ j, j < 2 * m - 1 → (valsR dg).getD j 0 = (nibr b).getD (j + 1) 0 := by
    intro j hj
    rw [← hdg, strip_vals, valsR_get, if_pos (by omega), htl]
    have hi : 2 * m - 1 - 1 - j < t.length := by omega
    rw [bN_get t _ hi]
    have ht2 : t[2 * m - 1 - 1 - j] = UInt8.ofNat (48 + (nibr b).getD (j + 1) 0) := by
      simp only [ht, List.getElem_map, List.getElem_reverse, List.getElem_tail, List.length_tail, hnl]
      rw [List.getD_eq_getElem?_getD, List.getElem?_eq_getElem (show j + 1 < (nibr b).length by omega), Option.getD_some]
      congr 3
      omega
    have h9 : (nibr b).getD (j + 1) 0 ≤ 9 := by
      rw [List.getD_eq_getElem?_getD, List.getElem?_eq_getElem (show j + 1 < (nibr b).length by omega), Option.getD_some]
      have := h3 ((nibr b).tail[j]'(by simp [hnl]; omega)) (List.getElem_mem _)
      rw [List.getElem_tail] at this
      exact this
    rw [ht2, toNat_ofNat (by omega)]
    omega
  have hvd : validS dg = true := by
    have hl1 : 1 ≤ dg.length := by rw [← hdg]; exact (strip_length t).2 (by intro e0; rw [e0] at htl; simp at htl; omega)
    have hh : headOk dg := by rw [← hdg]; exact strip_head t
    unfold validS
    rw [decide_eq_true hl1, decide_eq_true (show dg.length ≤ 31 by omega)]
    have h4 : (decide (1 < dg.length) && dg.head? == some 48) = false := by
      rcases hh with h | h
      · rw [decide_eq_false (by omega)]; rfl
      · rw [beq_eq_false_iff_ne.2 h, Bool.and_false]
    have h5 : (dg.all fun c => decide (48 ≤ c.toNat) && decide (c.toNat ≤ 57)) = true := by
      rw [List.all_eq_true]
      intro x hx
      obtain ⟨a, b⟩ := hmem x hx
      rw [decide_eq_true a, decide_eq_true b]; rfl
    rw [h4, h5]; rfl
  have hs : sgn ng = 12 ∨ sgn ng = 13 := by cases ng <;> simp [sgn]
  have hnb : ∀ i, (nibr b).getD i 0 < 16 := nibr_lt16 b
  have hp : ∀ i, i < 2 * m → (sgn ng :: valsR dg).getD i 0 < 16 := by
    intro i hi
    cases i with
    | zero => rw [List.getD_cons_zero]; omega
    | succ j => rw [List.getD_cons_succ, hval j (by omega)]; exact hnb _
  have hp2 : ∀ i, (sgn ng :: valsR dg).getD i 0 < 16 := by
    intro i
    by_cases hi : i < 2 * m
    · exact hp i hi
    · rw [List.getD_eq_getElem?_getD, List.getElem?_eq_none (by simp [valsR]; omega)]; simp
  have hf : ∀ i, i < m → bN (fld m (sgn ng :: valsR dg)) i = 16 * (sgn ng :: valsR dg).getD (2 * m - 1 - 2 * i) 0 + (sgn ng :: valsR dg).getD (2 * m - 2 - 2 * i) 0 := fun i hi => bN_fld m _ hp2 i hi
  have hb : ∀ i, i < m → bN b i % 16 = (nibr b).getD (2 * (m - 1 - i)) 0 ∧ bN b i / 16 = (nibr b).getD (2 * (m - 1 - i) + 1) 0 := by
    intro i hi
    obtain ⟨n1, n2⟩ := nibr_get b (m - 1 - i) (by omega)
    rw [hL, show m - 1 - (m - 1 - i) = i from by omega] at n1 n2
    exact ⟨n1.symm, n2.symm⟩
  refine ⟨hm1, hm2, by omega, ?_, ?_, ?_, ?_⟩
  · unfold encS
    rw [hvd, show okSize (m : Int) = true from by unfold okSize; simp; omega]
    simp only [Bool.and_self, if_true, Int.toNat_natCast]
    rw [decide_eq_false (by omega)]
  · intro i hi
    obtain ⟨n1, n2⟩ := hb i (by omega)
    rw [hf i (by omega), show 2 * m - 1 - 2 * i = (2 * (m - 1 - i)) + 1 from by omega, show 2 * m - 2 - 2 * i = (2 * (m - 1 - i) - 1) + 1 from by omega, List.getD_cons_succ, List.getD_cons_succ, hval _ (by omega), hval _ (by omega),
      show 2 * (m - 1 - i) - 1 + 1 = 2 * (m - 1 - i) from by omega, ← n1, ← n2]
    omega
  · obtain ⟨n1, n2⟩ := hb (m - 1) (by omega)
    rw [show m - 1 - (m - 1) = 0 from by omega, show 2 * 0 + 1 = 0 + 1 from rfl] at n2
    rw [hf (m - 1) (by omega), n2, show 2 * m - 1 - 2 * (m - 1) = 0 + 1 from by omega, show 2 * m - 2 - 2 * (m - 1) = 0 from by omega, List.getD_cons_succ, List.getD_cons_zero, hval 0 (by omega)]
    have := hnb (0 + 1)
    omega
  · rw [hf (m - 1) (by omega), show 2 * m - 1 - 2 * (m - 1) = 0 + 1 from by omega, show 2 * m - 2 - 2 * (m - 1) = 0 from by omega, List.getD_cons_succ, List.getD_cons_zero, hval 0 (by omega)]
    omega

end Go.Proofs.Ytmmhokcdchhciaa

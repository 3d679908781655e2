/- The reference of layer 4 in plain Lean: one step of each of its loops; no program in sight. -/
import Derived.Test.YtmklkfogddppmaaDoorKDecB
namespace Go.Proofs.YtmklkfogddppmaaDoor
set_option linter.unusedVariables false

theorem val_split (l : List Nat) (i : Nat) : val l = val (l.take i) + 10 ^ i * val (l.drop i) := by
  rcases Nat.lt_or_ge i l.length with h | h
  · conv => lhs; rw [← List.take_append_drop i l, val_append]
    rw [List.length_take, Nat.min_eq_left (by omega)]
  · rw [List.take_of_length_le h, List.drop_of_length_le h]; simp [val]
theorem val_take_lt (l : List Nat) (h : ∀ q ∈ l, q < 10) (i : Nat) : val (l.take i) < 10 ^ i := by
  refine Nat.lt_of_lt_of_le (val_lt _ fun q hq => h q (List.mem_of_mem_take hq)) ?_
  exact Nat.pow_le_pow_right (by decide) (List.length_take_le _ _)
theorem getD_lt10 (l : List Nat) (h : ∀ q ∈ l, q < 10) (i : Nat) : l.getD i 0 < 10 := by
  rw [List.getD_eq_getElem?_getD]
  rcases Nat.lt_or_ge i l.length with hi | hi
  · rw [List.getElem?_eq_getElem hi]; exact h _ (List.getElem_mem hi)
  · rw [List.getElem?_eq_none hi]; decide

/-- comparison at the first digit that differs -/
theorem less_at (l m : List Nat) (hl : ∀ q ∈ l, q < 10) (hm : ∀ q ∈ m, q < 10) (i : Nat) (he : val (l.drop (i + 1)) = val (m.drop (i + 1))) (hd : l.getD i 0 < m.getD i 0) : val l < val m := by
  have h1 := val_split l i
  have h2 := val_split m i
  have h3 := val_take_lt l hl i
  have h5 := val_drop_succ l i
  have h6 := val_drop_succ m i
  rw [h1, h2]
  have h7 : val (l.drop i) + 1 ≤ val (m.drop i) := by omega
  have h8 : 10 ^ i * (val (l.drop i) + 1) ≤ 10 ^ i * val (m.drop i) := Nat.mul_le_mul_left _ h7
  rw [Nat.mul_add, Nat.mul_one] at h8
  omega
theorem less_same (l m : List Nat) (i : Nat) (he : val (l.drop (i + 1)) = val (m.drop (i + 1))) (hd : l.getD i 0 = m.getD i 0) : val (l.drop i) = val (m.drop i) := by
  rw [val_drop_succ l i, val_drop_succ m i, he, hd]

/-- what a sum's loop keeps after i digits: out holds o, c is carried -/
def plusK (l m o : List Nat) (i c : Nat) : Prop := o.length = i ∧ (∀ q ∈ o, q < 10) ∧ c ≤ 1 ∧ val o + 10 ^ i * (c + val (l.drop i) + val (m.drop i)) = val l + val m
theorem plusK_zero (l m : List Nat) : plusK l m [] 0 0 := ⟨rfl, by simp, by omega, by simp [val]⟩
theorem plusK_succ {l m o : List Nat} {i c : Nat} (hl : ∀ q ∈ l, q < 10) (hm : ∀ q ∈ m, q < 10) (h : plusK l m o i c) (n : Nat) (hn : n = l.getD i 0 + m.getD i 0 + c) : plusK l m (o ++ [n % 10]) (i + 1) (n / 10) := by
  obtain ⟨h1, h2, h3, h4⟩ := h
  have g1 := getD_lt10 l hl i
  have g2 := getD_lt10 m hm i
  refine ⟨by rw [List.length_append, h1]; rfl, ?_, by omega, ?_⟩
  · intro q hq
    rcases List.mem_append.1 hq with hq | hq
    · exact h2 q hq
    · rw [List.mem_singleton.1 hq]; omega
  · rw [val_snoc, h1, Nat.pow_succ]
    rw [← h4]
    exact plus_step (10 ^ i) (val o) (val (l.drop i)) (val (m.drop i)) c (l.getD i 0) (m.getD i 0) _ _ n (val_drop_succ l i) (val_drop_succ m i) hn
theorem plusK_end {l m o : List Nat} {i : Nat} (h : plusK l m o i 0) (h1 : l.length ≤ i) (h2 : m.length ≤ i) : val o = val l + val m := by
  have := h.2.2.2
  rw [List.drop_of_length_le h1, List.drop_of_length_le h2] at this
  simpa [val] using this

/-- what a difference's loop keeps -/
def minusK (l m o : List Nat) (i b : Nat) : Prop := o.length = i ∧ (∀ q ∈ o, q < 10) ∧ b ≤ 1 ∧ (val o : Int) + 10 ^ i * ((val (l.drop i) : Int) - val (m.drop i) - b) = val l - val m
theorem minusK_zero (l m : List Nat) : minusK l m [] 0 0 := ⟨rfl, by simp, by omega, by simp [val]⟩
theorem minus_step (P q A B b x y A' B' : Int) (hA : A = x + 10 * A') (hB : B = y + 10 * B') (d b' : Int) (hd : d = x - y - b + 10 * b') : q + P * d + P * 10 * (A' - B' - b') = q + P * (A - B - b) := by
  subst hA hB hd
  rw [Int.mul_assoc P 10, Int.add_assoc q, ← Int.mul_add]
  congr 2
  omega
theorem minusK_succ {l m o : List Nat} {i b : Nat} (hl : ∀ q ∈ l, q < 10) (hm : ∀ q ∈ m, q < 10) (h : minusK l m o i b) (d b' : Nat) (hb : b' ≤ 1) (hd10 : d < 10) (hd : (d : Int) = (l.getD i 0 : Int) - m.getD i 0 - b + 10 * b') : minusK l m (o ++ [d]) (i + 1) b' := by
  obtain ⟨h1, h2, h3, h4⟩ := h
  refine ⟨by rw [List.length_append, h1]; rfl, ?_, hb, ?_⟩
  · intro q hq
    rcases List.mem_append.1 hq with hq | hq
    · exact h2 q hq
    · rw [List.mem_singleton.1 hq]; exact hd10
  · rw [val_snoc, h1, ← h4]
    have e1 := val_drop_succ l i
    have e2 := val_drop_succ m i
    have := minus_step (10 ^ i) (val o) (val (l.drop i)) (val (m.drop i)) b (l.getD i 0) (m.getD i 0) (val (l.drop (i + 1))) (val (m.drop (i + 1))) (by omega) (by omega) d b' hd
    rw [← this, Int.natCast_add, Int.natCast_mul, Int.natCast_pow, Int.pow_succ]; rfl
theorem minusK_end {l m o : List Nat} {b : Nat} (h : minusK l m o l.length b) (hle : val m ≤ val l) : val o = val l - val m := by
  obtain ⟨h1, h2, h3, h4⟩ := h
  have hlt := val_lt o h2
  rw [List.drop_of_length_le (Nat.le_refl _)] at h4
  rw [h1] at hlt
  have hk : (0 : Int) - val (m.drop l.length) - b = 0 := by
    rcases Nat.eq_zero_or_pos (val (m.drop l.length) + b) with h | h
    · omega
    · exfalso
      have h5 : (10 : Int) ^ l.length * ((val [] : Nat) - (val (m.drop l.length) : Int) - b) ≤ (10 : Int) ^ l.length * (-1) := Int.mul_le_mul_of_nonneg_left (by simp only [val]; omega) (Int.pow_nonneg (by decide))
      have h6 : ((10 ^ l.length : Nat) : Int) = (10 : Int) ^ l.length := by rw [Int.natCast_pow]; rfl
      have h7 : ((val o : Nat) : Int) < (10 : Int) ^ l.length := by rw [← h6]; exact_mod_cast hlt
      omega
  simp only [val] at h4
  rw [show ((0 : Nat) : Int) - (val (m.drop l.length) : Int) - b = 0 from hk, Int.mul_zero] at h4
  omega

theorem digs_len_le (v k : Nat) (h : v < 10 ^ k) : (digs v).length ≤ k := (digs_length v k).2 h
theorem digs_drop (v : Nat) : ∀ i, val ((digs v).drop i) = v / 10 ^ i := by
  intro i
  have h1 := val_split (digs v) i
  rw [val_digs] at h1
  have h2 := val_take_lt (digs v) (digs_lt v) i
  have h3 : (10 ^ i * val ((digs v).drop i) + val ((digs v).take i)) / 10 ^ i = val ((digs v).drop i) := by
    rw [Nat.mul_add_div (Nat.pow_pos (by decide)), Nat.div_eq_of_lt h2, Nat.add_zero]
  rw [Nat.add_comm, ← h1] at h3
  exact h3.symm
theorem digs_drop_eq (v : Nat) : ∀ i, (digs v).drop i = digs (v / 10 ^ i)
  | 0 => by simp
  | i + 1 => by
    rw [← List.drop_drop, digs_drop_eq v i]
    by_cases h : v / 10 ^ i = 0
    · rw [h, digs_zero, Nat.pow_succ, ← Nat.div_div_eq_div_mul, h]; simp [digs_zero]
    · rw [digs_pos h, List.drop_one, List.tail_cons, Nat.div_div_eq_div_mul, Nat.pow_succ]
theorem cons_lt (d : Nat) (l : List Nat) (hd : d < 10) (h : ∀ q ∈ l, q < 10) : ∀ q ∈ d :: l, q < 10 := fun q hq => by
  rcases List.mem_cons.1 hq with rfl | hq
  · exact hd
  · exact h q hq

/-- a field's digits, from left to right -/
theorem fldL_take (v n k : Nat) (h : k < 2 * n - 1) : (rightL (digs v).reverse (2 * n - 1)).take (k + 1) = (rightL (digs v).reverse (2 * n - 1)).take k ++ [(digs v).getD (2 * n - 2 - k) 0] := by
  have hl := rightL_length (digs v).reverse (2 * n - 1)
  rw [List.take_succ_eq_append_getElem (by omega)]
  have := rightL_getD (digs v) (2 * n - 1) k h
  rw [List.getD_eq_getElem?_getD, List.getElem?_eq_getElem (by omega)] at this
  congr 2
theorem fldN_pairs (neg : Bool) (v n : Nat) (h : 1 ≤ n) : pairs (rightL (digs v).reverse (2 * n - 1) ++ [sgn neg]) = fldN n neg v := pairs_right _ _ _ h
theorem fldL_lt (v n : Nat) (neg : Bool) : ∀ q ∈ rightL (digs v).reverse (2 * n - 1) ++ [sgn neg], q < 16 := by
  intro q hq
  rcases List.mem_append.1 hq with hq | hq
  · rcases List.mem_append.1 hq with hq | hq
    · rw [List.eq_of_mem_replicate hq]; decide
    · have := digs_lt v q (by simpa using List.mem_of_mem_drop hq); omega
  · rw [List.mem_singleton.1 hq]; exact sgn_lt neg
theorem digs_over (v n : Nat) (h : 1 ≤ n) : decide (2 * n - 1 < (digs v).length) = decide (10 ^ (2 * n - 1) ≤ v) := by
  rw [Bool.eq_iff_iff, decide_eq_true_iff, decide_eq_true_iff, ← Nat.not_le, digs_length, Nat.not_lt]

end Go.Proofs.YtmklkfogddppmaaDoor

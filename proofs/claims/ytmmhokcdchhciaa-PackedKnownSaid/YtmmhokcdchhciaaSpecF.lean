/- Layer 3 in plain Lean, more: what Decode has read after the digits p. -/
import Derived.Test.YtmmhokcdchhciaaSpecE
namespace Go.Proofs.Ytmmhokcdchhciaa

/-- what the table says of a digit -/
def sgnT (d : Nat) : Int := if d < 10 then 0 else if d = 11 ∨ d = 13 then 2 else 1
/-- The text that Decode has after the digits p. -/
def txtK (n : Nat) (p : List Nat) : Bs := (List.range n).map fun i => if n - i < p.length then UInt8.ofNat (48 + p.getD (n - i) 0) else 0
theorem txtK_length (n : Nat) (p : List Nat) : (txtK n p).length = n := by simp [txtK]
theorem txtK_get (n : Nat) (p : List Nat) (i : Nat) (h : i < (txtK n p).length) : (txtK n p)[i] = if n - i < p.length then UInt8.ofNat (48 + p.getD (n - i) 0) else 0 := by simp [txtK]
theorem txtK_nil (n : Nat) : txtK n [] = List.replicate n 0 := by
  refine List.ext_getElem (by simp [txtK_length]) fun i h1 h2 => ?_
  rw [txtK_get]; simp
theorem txtK_one (n d : Nat) : txtK n [d] = List.replicate n 0 := by
  refine List.ext_getElem (by simp [txtK_length]) fun i h1 h2 => ?_
  rw [txtK_get, if_neg (by rw [txtK_length] at h1; simp; omega)]; simp
theorem txtK_step (n : Nat) (p : List Nat) (d : Nat) (_h1 : 1 ≤ p.length) (h2 : p.length ≤ n) : txtK n (p ++ [d]) = (txtK n p).set (n - p.length) (UInt8.ofNat (48 + d)) := by
  refine List.ext_getElem (by simp [txtK_length]) fun i h3 h4 => ?_
  have hi : i < n := by rw [txtK_length] at h3; exact h3
  rw [txtK_get, List.getElem_set, txtK_get, getD_snoc, List.length_append, List.length_singleton]
  by_cases hc : n - p.length = i
  · rw [if_pos hc, if_pos (show n - i < p.length + 1 by omega), if_pos (show n - i = p.length by omega)]
  · rw [if_neg hc, if_neg (show ¬ n - i = p.length by omega)]
    by_cases h5 : n - i < p.length
    · rw [if_pos h5, if_pos (by omega)]
    · rw [if_neg h5, if_neg (by omega)]
theorem txtK_at (n : Nat) (p : List Nat) (h1 : 1 ≤ p.length) (h2 : p.length ≤ n) : ∃ x, (txtK n p)[n - p.length]? = some x := by
  rw [List.getElem?_eq_getElem (by rw [txtK_length]; omega)]; exact ⟨_, rfl⟩
theorem txtK_full (n : Nat) (p : List Nat) (h : p.length = n + 1) : txtK n p = p.tail.reverse.map fun d => UInt8.ofNat (48 + d) := by
  cases p with
  | nil => simp at h
  | cons a q =>
    simp only [List.length_cons] at h
    refine List.ext_getElem (by simp [txtK_length]; omega) fun i h1 h2 => ?_
    have hi : i < n := by rw [txtK_length] at h1; exact h1
    rw [txtK_get, if_pos (by simp; omega)]
    simp only [List.tail_cons, List.getElem_map, List.getElem_reverse]
    rw [show n - i = (n - i - 1) + 1 from by omega, List.getD_eq_getElem?_getD, List.getElem?_cons_succ, List.getElem?_eq_getElem (by omega)]
    simp only [Option.getD_some]
    congr 3
    omega

theorem decS_def (b : Bs) : decS b = if okSize b.length && decide (10 ≤ (nibr b).getD 0 0) && (nibr b).tail.all (· ≤ 9) then (((nibr b).getD 0 0 == 11 || (nibr b).getD 0 0 == 13, strip ((nibr b).tail.reverse.map fun d => UInt8.ofNat (48 + d))), true) else ((false, []), false) := rfl
theorem decS_good (b : Bs) (h1 : okSize b.length = true) (h2 : 10 ≤ (nibr b).getD 0 0) (h3 : ∀ q ∈ (nibr b).tail, q ≤ 9) :
    decS b = (((nibr b).getD 0 0 == 11 || (nibr b).getD 0 0 == 13, strip (txtK (2 * b.length - 1) (nibr b))), true) := by
  have hl : (nibr b).length = (2 * b.length - 1) + 1 := by
    rw [nibr_length]; obtain ⟨m, e, e1, e2⟩ : ∃ m : Nat, (b.length : Int) = m ∧ 1 ≤ m ∧ m ≤ 16 := by
      unfold okSize at h1; simp only [Bool.and_eq_true, decide_eq_true_eq] at h1; exact ⟨b.length, rfl, by omega, by omega⟩
    omega
  rw [txtK_full _ _ hl]
  rw [decS_def]
  rw [h1, decide_eq_true h2, show (nibr b).tail.all (· ≤ 9) = true from List.all_eq_true.2 fun q hq => decide_eq_true (h3 q hq)]
  rfl
theorem decS_badSize (b : Bs) (h : ¬ okSize b.length = true) : decS b = ((false, []), false) := by rw [decS_def]; simp [h]
theorem decS_badSign (b : Bs) (p : List Nat) (hp : p <+: nibr b) (hl : 1 ≤ p.length) (h : p.getD 0 0 < 10) : decS b = ((false, []), false) := by
  rw [decS_def]
  rw [getD_prefix hp 0 (by omega), decide_eq_false (show ¬ 10 ≤ p.getD 0 0 by omega)]; simp
theorem decS_badDigit (b : Bs) (p : List Nat) (x : Nat) (hp : p ++ [x] <+: nibr b) (hl : 1 ≤ p.length) (h : 9 < x) : decS b = ((false, []), false) := by
  have : (nibr b).tail.all (· ≤ 9) = false := by
    rw [List.all_eq_false]
    obtain ⟨t, ht⟩ := hp
    refine ⟨x, ?_, by simp; omega⟩
    rw [← ht]
    cases p with
    | nil => simp at hl
    | cons a q => simp
  rw [decS_def]
  rw [this]; simp

/-- one more leading zero away -/
theorem strip_drop (t : Bs) (a : Nat) (h1 : a + 1 < t.length) (h2 : t[a] = 48) (h : strip (t.drop a) = strip t) : strip (t.drop (a + 1)) = strip t := by
  rw [← h, List.drop_eq_getElem_cons (show a < t.length by omega), List.drop_eq_getElem_cons h1]
  simp only [strip, h2, if_true]
theorem strip_stop (t : Bs) (a : Nat) (h0 : a < t.length) (h2 : a + 1 = t.length ∨ t[a] ≠ 48) (h : strip (t.drop a) = strip t) : t.drop a = strip t := by
  rw [← h]
  by_cases h1 : a + 1 = t.length
  · rw [List.drop_eq_getElem_cons h0, List.drop_of_length_le (by omega)]; rfl
  · have h3 := h2.resolve_left h1
    rw [List.drop_eq_getElem_cons h0, List.drop_eq_getElem_cons (show a + 1 < t.length by omega)]
    simp only [strip, h3, if_false]
theorem txtK_num (n : Nat) (p : List Nat) (hp : ∀ q ∈ p.tail, q ≤ 9) (hl : p.length = n + 1) (i : Nat) (h : i < n) : bN (txtK n p) i = 48 + p.getD (n - i) 0 ∧ p.getD (n - i) 0 ≤ 9 := by
  have hq : p.getD (n - i) 0 ≤ 9 := by
    cases p with
    | nil => simp at hl
    | cons a q =>
      rw [show n - i = (n - i - 1) + 1 from by omega, List.getD_eq_getElem?_getD, List.getElem?_cons_succ]
      simp only [List.length_cons] at hl
      rw [List.getElem?_eq_getElem (by omega)]
      exact hp _ (List.getElem_mem _)
  refine ⟨?_, hq⟩
  rw [bN_get _ _ (by rw [txtK_length]; exact h), txtK_get, if_pos (by omega), toNat_ofNat (by omega)]

end Go.Proofs.Ytmmhokcdchhciaa

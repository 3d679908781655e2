/- Layer 3 in plain Lean, more: the digits that Encode and Zoned write. -/
import Derived.Test.YtmmhokcdchhciaaSpecB
import Derived.Test.YtmmhokcdchhciaaFrameB
namespace Go.Proofs.Ytmmhokcdchhciaa

theorem ba_bN (s : ByteArray) (i : Nat) (h : i < s.size) : bN s.data.toList i = s[i].toNat := by
  rw [bN_get _ _ (by simpa using h), ba_get s i h]

theorem valid_digits {s : ByteArray} (h : validS s.data.toList = true) : 1 ≤ s.size ∧ s.size ≤ 31 ∧ ∀ i, i < s.size → 48 ≤ bN s.data.toList i ∧ bN s.data.toList i ≤ 57 := by
  rw [validS_def] at h
  simp only [Bool.and_eq_true, decide_eq_true_eq] at h
  obtain ⟨⟨⟨h1, h2⟩, _⟩, h4⟩ := h
  refine ⟨h1, h2, fun i hi => ?_⟩
  rw [List.all_eq_true] at h4
  have := h4 (s.data.toList[i]'(by simpa using hi)) (List.getElem_mem _)
  rw [bN_get _ _ (by simpa using hi)]
  unfold digB at this
  simpa using this

theorem valsR_length (d : Bs) : (valsR d).length = d.length := by simp [valsR]
theorem valsR_take_succ (d : Bs) (k : Nat) (h : k < d.length) : (valsR d).take (k + 1) = (valsR d).take k ++ [bN d (d.length - 1 - k) - 48] := by
  rw [List.take_succ_eq_append_getElem (by rw [valsR_length]; exact h), bN_get _ _ (by omega)]
  simp [valsR]
theorem valsR_lt {s : ByteArray} (h : validS s.data.toList = true) : ∀ q ∈ valsR s.data.toList, q < 10 := by
  intro q hq
  simp only [valsR, List.mem_map, List.mem_reverse] at hq
  obtain ⟨c, hc, rfl⟩ := hq
  obtain ⟨i, hi, rfl⟩ := List.getElem_of_mem hc
  have := (valid_digits h).2.2 i (by simpa using hi)
  rw [bN_get _ _ hi] at this
  omega
/-- what Encode has written after k digits -/
def encP (neg : Bool) (d : Bs) (k : Nat) : List Nat := sgn neg :: (valsR d).take k
theorem encP_zero (neg : Bool) (d : Bs) : encP neg d 0 = [sgn neg] := by simp [encP]
theorem encP_succ (neg : Bool) (d : Bs) (k : Nat) (h : k < d.length) : encP neg d (k + 1) = encP neg d k ++ [bN d (d.length - 1 - k) - 48] := by
  unfold encP; rw [valsR_take_succ d k h]; rfl
theorem sgn_lt (b : Bool) : sgn b < 16 := by cases b <;> decide
theorem encP_lt (neg : Bool) {s : ByteArray} (h : validS s.data.toList = true) (k : Nat) : ∀ q ∈ encP neg s.data.toList k, q < 16 := by
  intro q hq
  simp only [encP, List.mem_cons] at hq
  rcases hq with rfl | hq
  · exact sgn_lt _
  · have := valsR_lt h q (List.mem_of_mem_take hq); omega
theorem encS_eq (neg : Bool) (s : ByteArray) (m : Nat) (h : validS s.data.toList = true) (h2 : okSize m = true) :
    encS neg s.data.toList m = (fld m (encP neg s.data.toList s.size), decide (2 * (m : Int) - 1 < s.size)) := by
  unfold encS encP
  rw [h, h2, List.take_of_length_le (by rw [valsR_length, ba_len]; exact Nat.le_refl _), ba_len]; rfl
theorem encS_bad (neg : Bool) (d : Bs) (n : Int) (h : ¬ validS d = true ∨ ¬ okSize n = true) : encS neg d n = ([], false) := by
  unfold encS; rcases h with h | h <;> simp [h]
theorem zonS_bad (neg : Bool) (d : Bs) (n : Int) (h : ¬ validS d = true ∨ ¬ okSize n = true) : zonS neg d n = ([], false) := by
  unfold zonS; rcases h with h | h <;> simp [h]

end Go.Proofs.Ytmmhokcdchhciaa

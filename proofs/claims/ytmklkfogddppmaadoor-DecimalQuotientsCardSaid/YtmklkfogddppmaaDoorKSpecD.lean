/- Layer 3 in plain Lean, more: the digits that Encode and Zoned write. -/
import Derived.Test.YtmklkfogddppmaaDoorKSpecB
import Derived.Test.YtmklkfogddppmaaDoorKFrameB
import Derived.Test.YtmklkfogddppmaaDoorKPut
namespace Go.Proofs.YtmklkfogddppmaaDoor

theorem ba_bN (s : ByteArray) (i : Nat) (h : i < s.size) : bN s.data.toList i = s[i].toNat := by
  rw [bN_get _ _ (by simpa using h), ba_get s i h]

theorem valid_digits {s : ByteArray} (h : validS s.data.toList = true) : 1 ≤ s.size ∧ s.size ≤ 31 ∧ ∀ i, i < s.size → 48 ≤ bN s.data.toList i ∧ bN s.data.toList i ≤ 57 := by
  rw [validS_def] at h
  simp only [Bool.and_eq_true, decide_eq_true_eq] at h
  obtain ⟨⟨⟨h1, h2⟩, _⟩, h4⟩ := h
  refine ⟨h1, h2, fun i hi => ?_⟩
  rw [List.all_eq_true] at h4
  have := h4 (s.data.toList[i]'(by simpa using hi)) (List.getElem_mem _)
  rw [bN_get _ _ (by simpa using hi)]
  unfold digB at this
  simpa using this

theorem valsR_length (d : Bs) : (valsR d).length = d.length := by simp [valsR]
theorem valsR_take_succ (d : Bs) (k : Nat) (h : k < d.length) : (valsR d).take (k + 1) = (valsR d).take k ++ [bN d (d.length - 1 - k) - 48] := by
  rw [List.take_succ_eq_append_getElem (by rw [valsR_length]; exact h), bN_get _ _ (by omega)]
  simp [valsR]
theorem valsR_lt {s : ByteArray} (h : validS s.data.toList = true) : ∀ q ∈ valsR s.data.toList, q < 10 := by
  intro q hq
  simp only [valsR, List.mem_map, List.mem_reverse] at hq
  obtain ⟨c, hc, rfl⟩ := hq
  obtain ⟨i, hi, rfl⟩ := List.getElem_of_mem hc
  have := (valid_digits h).2.2 i (by simpa using hi)
  rw [bN_get _ _ hi] at this
  omega
/-- what Encode has written after k digits -/
def encP (neg : Bool) (d : Bs) (k : Nat) : List Nat := sgn neg :: (valsR d).take k
theorem encP_zero (neg : Bool) (d : Bs) : encP neg d 0 = [sgn neg] := by simp [encP]
theorem encP_succ (neg : Bool) (d : Bs) (k : Nat) (h : k < d.length) : encP neg d (k + 1) = encP neg d k ++ [bN d (d.length - 1 - k) - 48] := by
  unfold encP; rw [valsR_take_succ d k h]; rfl
theorem sgn_lt (b : Bool) : sgn b < 16 := by cases b <;> decide
theorem encP_lt (neg : Bool) {s : ByteArray} (h : validS s.data.toList = true) (k : Nat) : ∀ q ∈ encP neg s.data.toList k, q < 16 := by
  intro q hq
  simp only [encP, List.mem_cons] at hq
  rcases hq with rfl | hq
  · exact sgn_lt _
  · have := valsR_lt h q (List.mem_of_mem_take hq); omega
theorem encS_eq (neg : Bool) (s : ByteArray) (m : Nat) (h : validS s.data.toList = true) (h2 : okSize m = true) :
    encS neg s.data.toList m = (fld m (encP neg s.data.toList s.size), decide (2 * (m : Int) - 1 < s.size)) := by
  unfold encS encP
  rw [h, h2, List.take_of_length_le (by rw [valsR_length, ba_len]; exact Nat.le_refl _), ba_len]; rfl
theorem encS_bad (neg : Bool) (d : Bs) (n : Int) (h : ¬ validS d = true ∨ ¬ okSize n = true) : encS neg d n = ([], false) := by
  unfold encS; rcases h with h | h <;> simp [h]
theorem zonS_bad (neg : Bool) (d : Bs) (n : Int) (h : ¬ validS d = true ∨ ¬ okSize n = true) : zonS neg d n = ([], false) := by
  unfold zonS; rcases h with h | h <;> simp [h]

end Go.Proofs.YtmklkfogddppmaaDoor

/- Layer 3 in plain Lean, more: zoned fields. -/
namespace Go.Proofs.YtmklkfogddppmaaDoor

/-- The row that Zoned has filled after k rounds. -/
def zonK (n k : Nat) (p : List Nat) : Bs := (List.range n).map fun j => if n - 1 - j < k then UInt8.ofNat (240 + p.getD (n - 1 - j) 0) else 0
theorem zonK_length (n k : Nat) (p : List Nat) : (zonK n k p).length = n := by simp [zonK]
theorem zonK_get (n k : Nat) (p : List Nat) (j : Nat) (h : j < (zonK n k p).length) : (zonK n k p)[j] = if n - 1 - j < k then UInt8.ofNat (240 + p.getD (n - 1 - j) 0) else 0 := by simp [zonK]
theorem zonK_zero (n : Nat) (p : List Nat) : zonK n 0 p = List.replicate n 0 := by
  refine List.ext_getElem (by simp [zonK_length]) fun i h1 h2 => ?_
  rw [zonK_get]; simp
theorem zonK_succ (n k : Nat) (p : List Nat) (h : k < n) : zonK n (k + 1) p = (zonK n k p).set (n - 1 - k) (UInt8.ofNat (240 + p.getD k 0)) := by
  refine List.ext_getElem (by simp [zonK_length]) fun i h1 h2 => ?_
  have hi : i < n := by rw [zonK_length] at h1; exact h1
  rw [zonK_get, List.getElem_set, zonK_get]
  by_cases hc : n - 1 - k = i
  · rw [if_pos hc, if_pos (by omega), show n - 1 - i = k from by omega]
  · rw [if_neg hc]
    by_cases h3 : n - 1 - i < k
    · rw [if_pos h3, if_pos (by omega)]
    · rw [if_neg h3, if_neg (by omega)]
theorem zonK_at (n k : Nat) (p : List Nat) (h : k < n) : (zonK n k p)[n - 1 - k]? = some 0 := by
  rw [List.getElem?_eq_getElem (by rw [zonK_length]; omega), zonK_get, if_neg (by omega)]
theorem zonK_last (n : Nat) (p : List Nat) (h : 1 ≤ n) : (zonK n n p)[n - 1]? = some (UInt8.ofNat (240 + p.getD 0 0)) := by
  rw [List.getElem?_eq_getElem (by rw [zonK_length]; omega), zonK_get, if_pos (by omega), show n - 1 - (n - 1) = 0 from by omega]
theorem zonF_of (neg : Bool) (n : Nat) (p : List Nat) (h : 1 ≤ n) : zonF neg n p = (zonK n n p).set (n - 1) (UInt8.ofNat (16 * sgn neg + p.getD 0 0)) := by
  refine List.ext_getElem (by simp [zonK_length, zonF]) fun i h1 h2 => ?_
  have hi : i < n := by simpa [zonF] using h1
  rw [List.getElem_set, zonK_get]
  simp only [zonF, List.getElem_map, List.getElem_range]
  by_cases hc : i = n - 1
  · subst hc; rw [if_pos rfl, if_pos rfl, show n - 1 - (n - 1) = 0 from by omega]
  · rw [if_neg hc, if_neg (by omega), if_pos (by omega)]
theorem zonS_eq (neg : Bool) (s : ByteArray) (m : Nat) (h : validS s.data.toList = true) (h2 : okSize m = true) :
    zonS neg s.data.toList m = (zonF neg m (valsR s.data.toList), decide ((m : Int) < s.size)) := by
  unfold zonS; rw [h, h2, ba_len]; rfl
theorem valsR_getD (d : Bs) (k : Nat) (h : k < d.length) : (valsR d).getD k 0 = bN d (d.length - 1 - k) - 48 := by
  rw [bN_get _ _ (by omega), List.getD_eq_getElem?_getD, List.getElem?_eq_getElem (by rw [valsR_length]; exact h)]
  simp [valsR]
theorem valsR_getD_ge (d : Bs) (k : Nat) (h : d.length ≤ k) : (valsR d).getD k 0 = 0 := getD_ge _ _ (by rw [valsR_length]; exact h)
theorem zone_or (d : Nat) (h : d < 16) : 240 ||| d = 240 + d := by
  rw [Nat.or_comm, show (240 : Nat) = 15 * 16 from rfl, or_shift d 15 h (by omega)]; 
theorem rows_set (l : Bs) (i : Nat) (x : UInt8) : ((l.map eb).toArray).setIfInBounds i (eb x) = ((l.set i x).map eb).toArray := by simp [List.map_set]

end Go.Proofs.YtmklkfogddppmaaDoor

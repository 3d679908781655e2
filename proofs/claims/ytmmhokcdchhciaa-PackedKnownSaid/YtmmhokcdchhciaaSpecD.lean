/- Layer 3 in plain Lean, more: zoned fields. -/
import Derived.Test.YtmmhokcdchhciaaSpecC
import Derived.Test.YtmmhokcdchhciaaPut
namespace Go.Proofs.Ytmmhokcdchhciaa

/-- The row that Zoned has filled after k rounds. -/
def zonK (n k : Nat) (p : List Nat) : Bs := (List.range n).map fun j => if n - 1 - j < k then UInt8.ofNat (240 + p.getD (n - 1 - j) 0) else 0
theorem zonK_length (n k : Nat) (p : List Nat) : (zonK n k p).length = n := by simp [zonK]
theorem zonK_get (n k : Nat) (p : List Nat) (j : Nat) (h : j < (zonK n k p).length) : (zonK n k p)[j] = if n - 1 - j < k then UInt8.ofNat (240 + p.getD (n - 1 - j) 0) else 0 := by simp [zonK]
theorem zonK_zero (n : Nat) (p : List Nat) : zonK n 0 p = List.replicate n 0 := by
  refine List.ext_getElem (by simp [zonK_length]) fun i h1 h2 => ?_
  rw [zonK_get]; simp
theorem zonK_succ (n k : Nat) (p : List Nat) (h : k < n) : zonK n (k + 1) p = (zonK n k p).set (n - 1 - k) (UInt8.ofNat (240 + p.getD k 0)) := by
  refine List.ext_getElem (by simp [zonK_length]) fun i h1 h2 => ?_
  have hi : i < n := by rw [zonK_length] at h1; exact h1
  rw [zonK_get, List.getElem_set, zonK_get]
  by_cases hc : n - 1 - k = i
  · rw [if_pos hc, if_pos (by omega), show n - 1 - i = k from by omega]
  · rw [if_neg hc]
    by_cases h3 : n - 1 - i < k
    · rw [if_pos h3, if_pos (by omega)]
    · rw [if_neg h3, if_neg (by omega)]
theorem zonK_at (n k : Nat) (p : List Nat) (h : k < n) : (zonK n k p)[n - 1 - k]? = some 0 := by
  rw [List.getElem?_eq_getElem (by rw [zonK_length]; omega), zonK_get, if_neg (by omega)]
theorem zonK_last (n : Nat) (p : List Nat) (h : 1 ≤ n) : (zonK n n p)[n - 1]? = some (UInt8.ofNat (240 + p.getD 0 0)) := by
  rw [List.getElem?_eq_getElem (by rw [zonK_length]; omega), zonK_get, if_pos (by omega), show n - 1 - (n - 1) = 0 from by omega]
theorem zonF_of (neg : Bool) (n : Nat) (p : List Nat) (h : 1 ≤ n) : zonF neg n p = (zonK n n p).set (n - 1) (UInt8.ofNat (16 * sgn neg + p.getD 0 0)) := by
  refine List.ext_getElem (by simp [zonK_length, zonF]) fun i h1 h2 => ?_
  have hi : i < n := by simpa [zonF] using h1
  rw [List.getElem_set, zonK_get]
  simp only [zonF, List.getElem_map, List.getElem_range]
  by_cases hc : i = n - 1
  · subst hc; rw [if_pos rfl, if_pos rfl, show n - 1 - (n - 1) = 0 from by omega]
  · rw [if_neg hc, if_neg (by omega), if_pos (by omega)]
theorem zonS_eq (neg : Bool) (s : ByteArray) (m : Nat) (h : validS s.data.toList = true) (h2 : okSize m = true) :
    zonS neg s.data.toList m = (zonF neg m (valsR s.data.toList), decide ((m : Int) < s.size)) := by
  unfold zonS; rw [h, h2, ba_len]; rfl
theorem valsR_getD (d : Bs) (k : Nat) (h : k < d.length) : (valsR d).getD k 0 = bN d (d.length - 1 - k) - 48 := by
  rw [bN_get _ _ (by omega), List.getD_eq_getElem?_getD, List.getElem?_eq_getElem (by rw [valsR_length]; exact h)]
  simp [valsR]
theorem valsR_getD_ge (d : Bs) (k : Nat) (h : d.length ≤ k) : (valsR d).getD k 0 = 0 := getD_ge _ _ (by rw [valsR_length]; exact h)
theorem zone_or (d : Nat) (h : d < 16) : 240 ||| d = 240 + d := by
  rw [Nat.or_comm, show (240 : Nat) = 15 * 16 from rfl, or_shift d 15 h (by omega)]; 
theorem rows_set (l : Bs) (i : Nat) (x : UInt8) : ((l.map eb).toArray).setIfInBounds i (eb x) = ((l.set i x).map eb).toArray := by simp [List.map_set]

end Go.Proofs.Ytmmhokcdchhciaa

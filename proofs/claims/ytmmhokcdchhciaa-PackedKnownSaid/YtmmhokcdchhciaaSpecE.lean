/- Layer 3 in plain Lean, more: what Unpack has written after the digits p. -/
import Derived.Test.YtmmhokcdchhciaaSpecD
import Derived.Test.YtmmhokcdchhciaaIter
namespace Go.Proofs.Ytmmhokcdchhciaa

/-- The row that Unpack has after the digits p. -/
def unpR (n : Nat) (p : List Nat) : Bs := (List.range n).map fun i => UInt8.ofNat (16 * (if i = n - 1 ∧ p ≠ [] then p.getD 0 0 else 15) + p.getD (n - i) 0)
theorem unpR_length (n : Nat) (p : List Nat) : (unpR n p).length = n := by simp [unpR]
theorem unpR_get (n : Nat) (p : List Nat) (i : Nat) (h : i < (unpR n p).length) : (unpR n p)[i] = UInt8.ofNat (16 * (if i = n - 1 ∧ p ≠ [] then p.getD 0 0 else 15) + p.getD (n - i) 0) := by simp [unpR]
theorem unpR_first (n d : Nat) (h : 1 ≤ n) : unpR n [d] = (unpR n []).set (n - 1) (UInt8.ofNat (16 * d)) := by
  refine List.ext_getElem (by simp [unpR_length]) fun i h1 h2 => ?_
  have hi : i < n := by rw [unpR_length] at h1; exact h1
  rw [unpR_get, List.getElem_set, unpR_get]
  by_cases hc : n - 1 = i
  · subst hc
    rw [if_pos rfl, if_pos ⟨rfl, by simp⟩, show n - (n - 1) = 1 from by omega]; simp
  · rw [if_neg hc, if_neg (by omega), if_neg (by omega)]
    have : n - i = (n - i - 1) + 1 := by omega
    rw [this]; simp
theorem unpR_step (n : Nat) (p : List Nat) (d : Nat) (h1 : 1 ≤ p.length) (h2 : p.length ≤ n) :
    unpR n (p ++ [d]) = (unpR n p).set (n - p.length) (UInt8.ofNat (16 * (if p.length = 1 then p.getD 0 0 else 15) + d)) := by
  have hp : p ≠ [] := by intro e; subst e; simp at h1
  have hp0 : (p ++ [d]).getD 0 0 = p.getD 0 0 := by rw [getD_snoc, if_neg (by omega)]
  refine List.ext_getElem (by simp [unpR_length]) fun i h3 h4 => ?_
  have hi : i < n := by rw [unpR_length] at h3; exact h3
  rw [unpR_get, List.getElem_set, unpR_get, hp0, getD_snoc]
  by_cases hc : n - p.length = i
  · rw [if_pos hc, if_pos (show n - i = p.length by omega)]
    congr 3
    by_cases h5 : p.length = 1
    · rw [if_pos h5, if_pos ⟨by omega, by simp⟩]
    · rw [if_neg h5, if_neg (by omega)]
  · rw [if_neg hc, if_neg (show ¬ n - i = p.length by omega)]
    simp [hp]
theorem unpR_at (n : Nat) (p : List Nat) (h1 : 1 ≤ p.length) (h2 : p.length ≤ n) : (unpR n p)[n - p.length]? = some (UInt8.ofNat (16 * (if p.length = 1 then p.getD 0 0 else 15))) := by
  have hp : p ≠ [] := by intro e; subst e; simp at h1
  rw [List.getElem?_eq_getElem (by rw [unpR_length]; omega), unpR_get, show n - (n - p.length) = p.length from by omega, getD_ge p _ (Nat.le_refl _)]
  congr 2
  by_cases h5 : p.length = 1
  · rw [if_pos h5, if_pos ⟨by omega, hp⟩]; rfl
  · rw [if_neg h5, if_neg (by omega)]
theorem unpR_at0 (n : Nat) (h : 1 ≤ n) : (unpR n [])[n - 1]? = some 240 := by
  rw [List.getElem?_eq_getElem (by rw [unpR_length]; omega), unpR_get]; simp
theorem unpR_more (n : Nat) (p : List Nat) (d : Nat) (h : n + 1 ≤ p.length) : unpR n (p ++ [d]) = unpR n p := by
  have hp : p ≠ [] := by intro e; subst e; simp at h
  unfold unpR
  refine List.map_congr_left fun i hi => ?_
  have hi' : i < n := by simpa using hi
  rw [show (p ++ [d]).getD 0 0 = p.getD 0 0 from by rw [getD_snoc, if_neg (by omega)], show (p ++ [d]).getD (n - i) 0 = p.getD (n - i) 0 from by rw [getD_snoc, if_neg (by omega)]]
  simp [hp]
theorem unpR_full (n : Nat) (p : List Nat) (hp : p ≠ []) : unpR n p = unpF n p := by
  unfold unpR unpF
  exact List.map_congr_left fun i _ => by simp [hp]
theorem getD_prefix {p q : List Nat} (h : p <+: q) (i : Nat) (hi : i < p.length) : q.getD i 0 = p.getD i 0 := by
  obtain ⟨t, rfl⟩ := h
  rw [List.getD_eq_getElem?_getD, List.getElem?_append_left hi, ← List.getD_eq_getElem?_getD]
theorem unpR_prefix (n : Nat) (p q : List Nat) (h : p <+: q) (hl : n + 1 ≤ p.length) : unpR n p = unpF n q := by
  have hp : p ≠ [] := by intro e; subst e; simp at hl
  unfold unpR unpF
  refine List.map_congr_left fun i hi => ?_
  have hi' : i < n := by simpa using hi
  rw [getD_prefix h 0 (by omega), getD_prefix h (n - i) (by omega)]
  simp [hp]
/-- The row that the first loop of Unpack has filled. -/
def filK (n k : Nat) : Bs := (List.range n).map fun i => if i < k then 240 else 0
theorem filK_length (n k : Nat) : (filK n k).length = n := by simp [filK]
theorem filK_get (n k i : Nat) (h : i < (filK n k).length) : (filK n k)[i] = if i < k then 240 else 0 := by simp [filK]
theorem filK_zero (n : Nat) : filK n 0 = List.replicate n 0 := by
  refine List.ext_getElem (by simp [filK_length]) fun i h1 h2 => ?_
  rw [filK_get]; simp
theorem filK_succ (n k : Nat) : filK n (k + 1) = (filK n k).set k 240 := by
  refine List.ext_getElem (by simp [filK_length]) fun i h1 h2 => ?_
  rw [filK_get, List.getElem_set, filK_get]
  by_cases hc : k = i
  · rw [if_pos (by omega), if_pos hc]
  · rw [if_neg hc]
    by_cases h3 : i < k
    · rw [if_pos h3, if_pos (by omega)]
    · rw [if_neg h3, if_neg (by omega)]
theorem filK_at (n k : Nat) (h : k < n) : (filK n k)[k]? = some 0 := by
  rw [List.getElem?_eq_getElem (by rw [filK_length]; omega), filK_get, if_neg (by omega)]
theorem filK_full (n : Nat) : filK n n = unpR n [] := by
  refine List.ext_getElem (by simp [filK_length, unpR_length]) fun i h1 h2 => ?_
  rw [filK_get, unpR_get, if_pos (by rw [filK_length] at h1; exact h1)]; simp
theorem unpackS_eq (b : Bs) (m : Nat) (h1 : okSize b.length = true) (h2 : okSize m = true) : unpackS b m = unpF m (nibr b) := by
  unfold unpackS; rw [h1, h2]; rfl
theorem unpackS_bad (b : Bs) (n : Int) (h : ¬ okSize b.length = true ∨ ¬ okSize n = true) : unpackS b n = [] := by
  unfold unpackS; rcases h with h | h <;> simp [h]
theorem unpF_length (n : Nat) (p : List Nat) : (unpF n p).length = n := by simp [unpF]

end Go.Proofs.Ytmmhokcdchhciaa

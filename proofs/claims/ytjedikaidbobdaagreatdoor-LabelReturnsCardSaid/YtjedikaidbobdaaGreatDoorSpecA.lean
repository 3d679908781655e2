/- Layer 3 in plain Lean: digits of four bits, packed and zoned fields; no program in sight. -/
import Init.Data.List.Lemmas
namespace Go.Proofs.YtjedikaidbobdaaGreatDoor

abbrev Bs := List UInt8

/-- The digits of b, from right to left. -/
def nibr (b : Bs) : List Nat := b.reverse.flatMap fun x => [x.toNat % 16, x.toNat / 16]

/-- The field of n bytes whose digits, from right to left, are p (zeros beyond). -/
def fld (n : Nat) (p : List Nat) : Bs := (List.range n).map fun i => UInt8.ofNat (16 * p.getD (2 * n - 1 - 2 * i) 0 + p.getD (2 * n - 2 - 2 * i) 0)

/-- The bytes of pairs of digits, from left to right. -/
def pairs : List Nat → Bs
  | a :: b :: l => UInt8.ofNat (16 * a + b) :: pairs l
  | _ => []

/-- The last n of l, with zeros on the left. -/
def rightL (l : List Nat) (n : Nat) : List Nat := List.replicate (n - l.length) 0 ++ l.drop (l.length - n)

theorem fld_length (n : Nat) (p : List Nat) : (fld n p).length = n := by simp [fld]

theorem fld_get (n : Nat) (p : List Nat) (i : Nat) (h : i < (fld n p).length) :
    (fld n p)[i] = UInt8.ofNat (16 * p.getD (2 * n - 1 - 2 * i) 0 + p.getD (2 * n - 2 - 2 * i) 0) := by simp [fld]

theorem getD_snoc (p : List Nat) (d j : Nat) : (p ++ [d]).getD j 0 = if j = p.length then d else p.getD j 0 := by
  rw [List.getD_eq_getElem?_getD, List.getD_eq_getElem?_getD]
  by_cases h : j < p.length
  · rw [List.getElem?_append_left h, if_neg (by omega)]
  · rw [List.getElem?_append_right (by omega)]
    by_cases h' : j = p.length
    · subst h'; simp
    · rw [if_neg h', List.getElem?_eq_none (by simp; omega), List.getElem?_eq_none (by omega)]

/-- One more digit on the left. -/
theorem fld_snoc_full (n : Nat) (p : List Nat) (d : Nat) (h : 2 * n ≤ p.length) : fld n (p ++ [d]) = fld n p := by
  unfold fld
  refine List.map_congr_left fun i hi => ?_
  have hi' : i < n := by simpa using hi
  rw [getD_snoc, getD_snoc, if_neg (by omega), if_neg (by omega)]

theorem getD_ge (p : List Nat) (j : Nat) (h : p.length ≤ j) : p.getD j 0 = 0 := by
  rw [List.getD_eq_getElem?_getD, List.getElem?_eq_none h]; rfl

theorem fld_snoc_even (n : Nat) (p : List Nat) (d j : Nat) (h : p.length = 2 * j) (hj : j < n) :
    fld n (p ++ [d]) = (fld n p).set (n - 1 - j) (UInt8.ofNat d) := by
  refine List.ext_getElem (by simp [fld_length]) fun i h1 h2 => ?_
  have hi : i < n := by rw [fld_length] at h1; exact h1
  rw [fld_get, List.getElem_set, getD_snoc, getD_snoc, fld_get]
  by_cases hc : n - 1 - j = i
  · rw [if_neg (by omega), if_pos (by omega), if_pos hc, getD_ge p _ (by omega)]; simp
  · rw [if_neg (by omega), if_neg (by omega), if_neg hc]

theorem fld_snoc_odd (n : Nat) (p : List Nat) (d j : Nat) (h : p.length = 2 * j + 1) (hj : j < n) :
    fld n (p ++ [d]) = (fld n p).set (n - 1 - j) (UInt8.ofNat (16 * d + p.getD (2 * j) 0)) := by
  refine List.ext_getElem (by simp [fld_length]) fun i h1 h2 => ?_
  have hi : i < n := by rw [fld_length] at h1; exact h1
  rw [fld_get, List.getElem_set, getD_snoc, getD_snoc, fld_get]
  by_cases hc : n - 1 - j = i
  · rw [if_pos (by omega), if_neg (by omega), if_pos hc, show 2 * n - 2 - 2 * i = 2 * j from by omega]
  · rw [if_neg (by omega), if_neg (by omega), if_neg hc]

/-- The byte that an odd step finds. -/
theorem fld_at_odd (n : Nat) (p : List Nat) (j : Nat) (h : p.length = 2 * j + 1) (hj : j < n) :
    (fld n p)[n - 1 - j]? = some (UInt8.ofNat (p.getD (2 * j) 0)) := by
  rw [List.getElem?_eq_getElem (by rw [fld_length]; omega), fld_get, getD_ge p _ (by omega), show 2 * n - 2 - 2 * (n - 1 - j) = 2 * j from by omega]; simp
theorem fld_at_even (n : Nat) (p : List Nat) (j : Nat) (h : p.length = 2 * j) (hj : j < n) :
    (fld n p)[n - 1 - j]? = some 0 := by
  rw [List.getElem?_eq_getElem (by rw [fld_length]; omega), fld_get, getD_ge p _ (by omega), getD_ge p _ (by omega)]; simp

theorem pairs_length : ∀ (n : Nat) (l : List Nat), l.length = 2 * n → (pairs l).length = n
  | 0, l, h => by cases l with | nil => rfl | cons a l => simp at h
  | n + 1, l, h => by
    match l, h with
    | a :: b :: l, h => simp [pairs, pairs_length n l (by simp at h; omega)]

theorem pairs_get : ∀ (n : Nat) (l : List Nat) (_ : l.length = 2 * n) (i : Nat) (h : i < (pairs l).length),
    (pairs l)[i] = UInt8.ofNat (16 * l.getD (2 * i) 0 + l.getD (2 * i + 1) 0)
  | 0, l, hl, i, h => by rw [pairs_length 0 l hl] at h; omega
  | n + 1, l, hl, i, h => by
    match l, hl with
    | a :: b :: l, hl =>
      cases i with
      | zero => simp [pairs]
      | succ i =>
        have := pairs_get n l (by simp at hl; omega) i (by simpa [pairs] using h)
        simp only [pairs, List.getElem_cons_succ, this]
        rw [show 2 * (i + 1) = 2 * i + 1 + 1 from by omega, show 2 * i + 1 + 1 + 1 = (2 * i + 1) + 1 + 1 from rfl]
        simp [List.getD_eq_getElem?_getD]

theorem rightL_length (l : List Nat) (n : Nat) : (rightL l n).length = n := by simp [rightL]; omega

theorem getD_reverse (p : List Nat) (i : Nat) (h : i < p.length) : p.reverse.getD i 0 = p.getD (p.length - 1 - i) 0 := by
  rw [List.getD_eq_getElem?_getD, List.getD_eq_getElem?_getD, List.getElem?_reverse h]

theorem rightL_getD (p : List Nat) (n i : Nat) (h : i < n) : (rightL p.reverse n).getD i 0 = p.getD (n - 1 - i) 0 := by
  unfold rightL
  rw [List.getD_eq_getElem?_getD]
  by_cases h1 : i < n - p.length
  · rw [List.getElem?_append_left (by simpa using h1), getD_ge p _ (by omega)]
    simp [h1]
  · rw [List.getElem?_append_right (by simp; omega), List.getElem?_drop]
    simp only [List.length_replicate, List.length_reverse]
    have := getD_reverse p (p.length - n + (i - (n - p.length))) (by omega)
    rw [List.getD_eq_getElem?_getD] at this
    rw [this]
    congr 1
    omega

/-- The reference's field is the field. -/
theorem pairs_right (p : List Nat) (s n : Nat) (hn : 1 ≤ n) : pairs (rightL p.reverse (2 * n - 1) ++ [s]) = fld n (s :: p) := by
  have hl : (rightL p.reverse (2 * n - 1) ++ [s]).length = 2 * n := by simp [rightL_length]; omega
  refine List.ext_getElem (by rw [pairs_length n _ hl, fld_length]) fun i h1 h2 => ?_
  have hi : i < n := by rw [fld_length] at h2; exact h2
  rw [pairs_get n _ hl, fld_get]
  have e1 : (rightL p.reverse (2 * n - 1) ++ [s]).getD (2 * i) 0 = (s :: p).getD (2 * n - 1 - 2 * i) 0 := by
    rw [List.getD_eq_getElem?_getD, List.getElem?_append_left (by rw [rightL_length]; omega), ← List.getD_eq_getElem?_getD, rightL_getD _ _ _ (by omega),
      show 2 * n - 1 - 2 * i = (2 * n - 1 - 1 - 2 * i) + 1 from by omega]
    simp
  have e2 : (rightL p.reverse (2 * n - 1) ++ [s]).getD (2 * i + 1) 0 = (s :: p).getD (2 * n - 2 - 2 * i) 0 := by
    by_cases hc : i = n - 1
    · rw [List.getD_eq_getElem?_getD, List.getElem?_append_right (by rw [rightL_length]; omega), rightL_length, show 2 * i + 1 - (2 * n - 1) = 0 from by omega, show 2 * n - 2 - 2 * i = 0 from by omega]
      simp
    · rw [List.getD_eq_getElem?_getD, List.getElem?_append_left (by rw [rightL_length]; omega), ← List.getD_eq_getElem?_getD, rightL_getD _ _ _ (by omega),
        show 2 * n - 2 - 2 * i = (2 * n - 1 - 1 - (2 * i + 1)) + 1 from by omega]
      simp
  rw [e1, e2]

/-- How many bytes a field may have. -/
def okSize (n : Int) : Bool := decide (1 ≤ n) && decide (n ≤ 16)
/-- The sign that is written. -/
def sgn (neg : Bool) : Nat := if neg then 13 else 12
/-- P3.1 -/
def validS (d : Bs) : Bool := decide (1 ≤ d.length) && decide (d.length ≤ 31) && !(decide (1 < d.length) && d.head? == some 48) && d.all fun c => decide (48 ≤ c.toNat) && decide (c.toNat ≤ 57)
/-- The digits of a number, from right to left. -/
def valsR (d : Bs) : List Nat := d.reverse.map fun c => c.toNat - 48
/-- P3.3 -/
def encS (neg : Bool) (d : Bs) (n : Int) : Bs × Bool := if validS d && okSize n then (fld n.toNat (sgn neg :: valsR d), decide (2 * n - 1 < d.length)) else ([], false)
/-- P3.4 -/
def zonF (neg : Bool) (n : Nat) (p : List Nat) : Bs := (List.range n).map fun i => UInt8.ofNat (16 * (if i = n - 1 then sgn neg else 15) + p.getD (n - 1 - i) 0)
def zonS (neg : Bool) (d : Bs) (n : Int) : Bs × Bool := if validS d && okSize n then (zonF neg n.toNat (valsR d), decide (n < d.length)) else ([], false)
/-- P3.5 -/
def packS (b : Bs) (n : Int) : Bs := if okSize b.length && okSize n then fld n.toNat ((b.getLast?.getD 0).toNat / 16 :: b.reverse.map (·.toNat % 16)) else []
/-- P3.6 -/
def unpF (n : Nat) (p : List Nat) : Bs := (List.range n).map fun i => UInt8.ofNat (16 * (if i = n - 1 then p.getD 0 0 else 15) + p.getD (n - i) 0)
def unpackS (b : Bs) (n : Int) : Bs := if okSize b.length && okSize n then unpF n.toNat (nibr b) else []
/-- P3.7 -/
def offS (dst src : Bs) : Bs := if okSize dst.length && okSize src.length then fld dst.length ((dst.getLast?.getD 0).toNat % 16 :: nibr src) else []
/-- Leading zeros away, but for the last one. -/
def strip : Bs → Bs
  | [] => []
  | [c] => [c]
  | c :: d :: l => if c = 48 then strip (d :: l) else c :: d :: l
/-- P3.2: the number of a field: its sign, its digits; whether it is one. -/
def decS (b : Bs) : (Bool × Bs) × Bool :=
  let p := nibr b
  if okSize b.length && decide (10 ≤ p.getD 0 0) && p.tail.all (· ≤ 9) then ((p.getD 0 0 == 11 || p.getD 0 0 == 13, strip (p.tail.reverse.map fun d => UInt8.ofNat (48 + d))), true) else ((false, []), false)

theorem nibr_snoc (b : Bs) (x : UInt8) : nibr (b ++ [x]) = x.toNat % 16 :: x.toNat / 16 :: nibr b := by simp [nibr]
theorem nibr_length (b : Bs) : (nibr b).length = 2 * b.length := by
  unfold nibr
  induction b with
  | nil => rfl
  | cons x b ih => simp [List.flatMap_append] at ih ⊢; omega
theorem nibr_lt (b : Bs) : ∀ d ∈ nibr b, d < 16 := by
  intro d hd
  simp only [nibr, List.mem_flatMap, List.mem_reverse, List.mem_cons, List.not_mem_nil, or_false] at hd
  obtain ⟨x, _, rfl | rfl⟩ := hd
  · omega
  · have := x.toNat_lt; omega

end Go.Proofs.YtjedikaidbobdaaGreatDoor

/- The decimal numeral and the lists of digits, in plain Lean. -/
import Derived.Lib.ItoaNum
import Derived.Test.YtmklkfogddppmaaDoorKDecA
import Derived.Test.YtmklkfogddppmaaDoorKRefDec
namespace Go.Proofs.YtmklkfogddppmaaDoor
open Go.Lib

theorem dec_small {u : Nat} (h : u < 10) : decDigits u = [UInt8.ofNat (48 + u)] := by rw [decDigits, dif_pos h]
theorem dec_big {u : Nat} (h : ¬ u < 10) : decDigits u = decDigits (u / 10) ++ [UInt8.ofNat (48 + u % 10)] := by rw [decDigits, dif_neg h]

theorem asc_toNat (d : Nat) (h : d < 10) : (UInt8.ofNat (48 + d)).toNat = 48 + d := by rw [UInt8.toNat_ofNat']; omega
theorem asc_zero (d : Nat) (h : d < 10) : UInt8.ofNat (48 + d) = 48 ↔ d = 0 := by
  constructor
  · intro e
    have := congrArg UInt8.toNat e
    rw [asc_toNat d h] at this
    simp at this; omega
  · rintro rfl; rfl

theorem dec_ne (u : Nat) : decDigits u ≠ [] := by
  by_cases h : u < 10
  · rw [dec_small h]; simp
  · rw [dec_big h]; simp
theorem dec_len (u : Nat) : ∀ k, 1 ≤ k → ((decDigits u).length ≤ k ↔ u < 10 ^ k) := by
  induction u using Nat.strongRecOn with
  | ind u ih =>
    intro k hk
    by_cases h : u < 10
    · rw [dec_small h]
      obtain ⟨k, rfl⟩ : ∃ j, k = j + 1 := ⟨k - 1, by omega⟩
      have : 0 < 10 ^ k := Nat.pow_pos (by decide)
      rw [Nat.pow_succ]; simp; omega
    · rw [dec_big h, List.length_append]
      obtain ⟨k, rfl⟩ : ∃ j, k = j + 1 := ⟨k - 1, by omega⟩
      rw [List.length_singleton, Nat.add_le_add_iff_right]
      rcases Nat.eq_zero_or_pos k with rfl | hk
      · have := dec_ne (u / 10)
        rw [Nat.pow_succ]
        simp only [Nat.pow_zero, Nat.one_mul, Nat.le_zero, List.length_eq_zero_iff]
        constructor
        · intro e; exact absurd e this
        · intro e; omega
      · rw [ih (u / 10) (by omega) k hk, Nat.pow_succ]; omega
theorem dec_zero_iff (u : Nat) : decDigits u = [48] ↔ u = 0 := by
  constructor
  · intro e
    by_cases h : u < 10
    · rw [dec_small h] at e
      exact (asc_zero u h).1 (by simpa using e)
    · rw [dec_big h] at e
      have := congrArg List.length e
      have h2 := List.length_pos_iff.2 (dec_ne (u / 10))
      rw [List.length_append, List.length_singleton, List.length_singleton] at this; omega
  · rintro rfl; rw [dec_small (by omega)]; rfl
theorem dec_head (u : Nat) (h : u ≠ 0) : (decDigits u).getD 0 0 ≠ 48 := by
  induction u using Nat.strongRecOn with
  | ind u ih =>
    by_cases h1 : u < 10
    · rw [dec_small h1]; simp only [List.getD_cons_zero]
      intro e; exact h ((asc_zero u h1).1 e)
    · rw [dec_big h1]
      have h2 := List.length_pos_iff.2 (dec_ne (u / 10))
      rw [List.getD_eq_getElem?_getD, List.getElem?_append_left h2, ← List.getD_eq_getElem?_getD]
      exact ih (u / 10) (by omega) (by omega)
theorem dec_mem (u : Nat) : ∀ c ∈ decDigits u, 48 ≤ c.toNat ∧ c.toNat ≤ 57 := by
  induction u using Nat.strongRecOn with
  | ind u ih =>
    by_cases h : u < 10
    · rw [dec_small h]
      intro c hc
      rw [List.mem_singleton.1 hc, asc_toNat u h]; omega
    · rw [dec_big h]
      intro c hc
      rcases List.mem_append.1 hc with hc | hc
      · exact ih (u / 10) (by omega) c hc
      · rw [List.mem_singleton.1 hc, asc_toNat _ (by omega)]; omega

/-- the last digits of a numeral, from right to left -/
theorem dec_vals (u : Nat) : u ≠ 0 → valsR (decDigits u) = digs u := by
  induction u using Nat.strongRecOn with
  | ind u ih =>
    intro h0
    by_cases h : u < 10
    · rw [dec_small h, digs_pos h0, show u / 10 = 0 from by omega, digs_zero, show u % 10 = u from by omega]
      simp only [valsR, List.reverse_singleton, List.map_singleton]
      rw [asc_toNat u h, show 48 + u - 48 = u from by omega]
    · rw [dec_big h, digs_pos h0, ← ih (u / 10) (by omega) (by omega)]
      simp only [valsR, List.reverse_append, List.reverse_singleton, List.singleton_append, List.map_cons]
      rw [asc_toNat _ (by omega), show 48 + u % 10 - 48 = u % 10 from by omega]

/-- stripping the numerals of digits gives the numeral -/
theorem strip_dec : ∀ (l : List Nat), l ≠ [] → (∀ q ∈ l, q < 10) → strip (l.reverse.map fun d => UInt8.ofNat (48 + d)) = decDigits (val l)
  | [], h, _ => absurd rfl h
  | [d], _, h => by
    have := h d (by simp)
    simp only [List.reverse_singleton, List.map_singleton, strip, val]
    rw [show d + 10 * 0 = d from by omega, dec_small this]
  | d :: e :: l, _, h => by
    have ih := strip_dec (e :: l) (by simp) fun q hq => h q (List.mem_cons_of_mem _ hq)
    have hd := h d (by simp)
    rw [List.reverse_cons, List.map_append, List.map_singleton, strip_snoc, ih]
    show app1 _ _ = decDigits (d + 10 * val (e :: l))
    unfold app1
    generalize val (e :: l) = u at *
    by_cases h0 : u = 0
    · rw [if_pos ((dec_zero_iff u).2 h0), h0, show d + 10 * 0 = d from by omega, dec_small hd]; rfl
    · rw [if_neg (fun e => h0 ((dec_zero_iff u).1 e)), dec_big (u := d + 10 * u) (by omega), show (d + 10 * u) / 10 = u from by omega, show (d + 10 * u) % 10 = d from by omega]

/-- the number of a text of digits -/
def valT (l : Bs) : Nat := l.foldl (fun v c => 10 * v + (c.toNat - 48)) 0
theorem valT_snoc (l : Bs) (c : UInt8) : valT (l ++ [c]) = 10 * valT l + (c.toNat - 48) := by simp [valT]
theorem valT_dec (u : Nat) : valT (decDigits u) = u := by
  induction u using Nat.strongRecOn with
  | ind u ih =>
    by_cases h : u < 10
    · rw [dec_small h]
      have := asc_toNat u h
      simp only [valT, List.foldl_cons, List.foldl_nil]; omega
    · rw [dec_big h, valT_snoc, ih (u / 10) (by omega), asc_toNat _ (by omega)]; omega

/-- k digits of r, with zeros on the left -/
def padK : Nat → Nat → Bs
  | 0, _ => []
  | k + 1, r => padK k (r / 10) ++ [UInt8.ofNat (48 + r % 10)]
theorem padK_length : ∀ (k r : Nat), (padK k r).length = k
  | 0, _ => rfl
  | k + 1, r => by rw [padK, List.length_append, padK_length k]; rfl
theorem dec_unit : ∀ (k r : Nat), r < 10 ^ k → decDigits (r + 10 ^ k) = 49 :: padK k r
  | 0, r, h => by
    rw [Nat.pow_zero] at h ⊢
    rw [show r = 0 from by omega, dec_small (by omega)]; rfl
  | k + 1, r, h => by
    have hp : 0 < 10 ^ k := Nat.pow_pos (by decide)
    rw [Nat.pow_succ] at h ⊢
    rw [dec_big (by omega), show (r + 10 ^ k * 10) / 10 = r / 10 + 10 ^ k from by omega, dec_unit k (r / 10) (by omega), show (r + 10 ^ k * 10) % 10 = r % 10 from by omega, padK]
    rfl
theorem dec_split : ∀ (k v : Nat), 10 ^ k ≤ v → decDigits v = decDigits (v / 10 ^ k) ++ padK k (v % 10 ^ k)
  | 0, v, h => by simp [padK]
  | k + 1, v, h => by
    have hp : 0 < 10 ^ k := Nat.pow_pos (by decide)
    have e1 : v / 10 ^ (k + 1) = v / 10 / 10 ^ k := by rw [Nat.pow_succ, Nat.mul_comm, Nat.div_div_eq_div_mul]
    have e2 : v % 10 ^ (k + 1) = v % 10 + 10 * (v / 10 % 10 ^ k) := by rw [Nat.pow_succ, Nat.mul_comm, Nat.mod_mul]
    rw [Nat.pow_succ] at h
    rw [dec_big (by omega), dec_split k (v / 10) (by omega), e1, e2, padK, show (v % 10 + 10 * (v / 10 % 10 ^ k)) / 10 = v / 10 % 10 ^ k from by omega, show (v % 10 + 10 * (v / 10 % 10 ^ k)) % 10 = v % 10 from by omega, List.append_assoc]

/-- the text that is written into a field of n bytes -/
def cutT (t : Bs) (n : Nat) : Bs := if 2 * n - 1 < t.length then t.drop (t.length - (2 * n - 1)) else t
/-- the field of n bytes of a number -/
def fldN (n : Nat) (neg : Bool) (v : Nat) : Bs := fld n (sgn neg :: digs v)
theorem dec_getD (u i : Nat) : (valsR (decDigits u)).getD i 0 = u / 10 ^ i % 10 := by
  by_cases h : u = 0
  · subst h
    rw [dec_small (by omega)]
    cases i <;> simp [valsR]
  · rw [dec_vals u h, digs_getD]
theorem cut_vals (t : Bs) (n i : Nat) (h : i < 2 * n - 1) : (valsR (cutT t n)).getD i 0 = (valsR t).getD i 0 := by
  unfold cutT
  split
  · rename_i hl
    rw [valsR_get, valsR_get, List.length_drop, if_pos (by omega), if_pos (by omega)]
    unfold bN
    congr 2
    rw [List.getD_eq_getElem?_getD, List.getElem?_drop, ← List.getD_eq_getElem?_getD]
    congr 1; omega
  · rfl
theorem cut_length (t : Bs) (n : Nat) : (cutT t n).length ≤ 2 * n - 1 ∧ (1 ≤ n → t ≠ [] → cutT t n ≠ []) := by
  unfold cutT
  split
  · rename_i hl
    refine ⟨by rw [List.length_drop]; omega, fun h1 h2 e => ?_⟩
    have := congrArg List.length e
    rw [List.length_drop, List.length_nil] at this; omega
  · exact ⟨by omega, fun _ h => h⟩
theorem cut_mem (t : Bs) (n : Nat) (c : UInt8) (h : c ∈ cutT t n) : c ∈ t := by
  unfold cutT at h
  split at h
  · exact List.mem_of_mem_drop h
  · exact h
theorem valid_of (d : Bs) (h1 : 1 ≤ d.length) (h2 : d.length ≤ 31) (h3 : headOk d) (h4 : ∀ c ∈ d, 48 ≤ c.toNat ∧ c.toNat ≤ 57) : validS d = true := by
  unfold validS
  simp only [Bool.and_eq_true, decide_eq_true_eq, List.all_eq_true]
  refine ⟨⟨⟨h1, h2⟩, ?_⟩, h4⟩
  rcases h3 with h | h
  · rw [decide_eq_false (by omega)]; rfl
  · have : (d.head? == some 48) = false := beq_eq_false_iff_ne.2 h
    rw [this]; simp
theorem cut_valid (v n : Nat) (h1 : 1 ≤ n) (h2 : n ≤ 16) : validS (strip (cutT (decDigits v) n)) = true := by
  have hl := cut_length (decDigits v) n
  have hs := strip_length (cutT (decDigits v) n)
  exact valid_of _ (hs.2 (hl.2 h1 (dec_ne v))) (by omega) (strip_head _) fun c hc => dec_mem v c (cut_mem _ _ _ (strip_mem _ _ hc))
theorem cut_fld (neg : Bool) (v n : Nat) : fld n (sgn neg :: valsR (strip (cutT (decDigits v) n))) = fldN n neg v := by
  refine fld_congr n _ _ fun i hi => ?_
  cases i with
  | zero => rfl
  | succ i => rw [List.getD_cons_succ, List.getD_cons_succ, strip_vals, cut_vals _ _ _ (by omega), dec_getD, digs_getD]
theorem dec_over (v n : Nat) (h1 : 1 ≤ n) : 2 * n - 1 < (decDigits v).length ↔ 10 ^ (2 * n - 1) ≤ v := by
  have := dec_len v (2 * n - 1) (by omega)
  omega

end Go.Proofs.YtmklkfogddppmaaDoor

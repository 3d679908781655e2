/- The division of two words by one, by halves of words, in plain Lean; no program in sight. -/
import Derived.Lib.BitFns
import Derived.Lib.ItoaNum
namespace Go.Proofs.YtmklkfogddppmaaDoor

/-- the product of a digit and the divisor, by halves -/
theorem kn_mul (q yn1 yn0 Y : Nat) (hY : Y = yn1 * 4294967296 + yn0) : q * Y = q * yn1 * 4294967296 + q * yn0 := by
  rw [hY, Nat.mul_add, Nat.mul_assoc]

/-- the guess of a digit -/
theorem kn_init (un Y yn1 yn0 c : Nat) (hY : Y = yn1 * 4294967296 + yn0) (h0 : yn0 < 4294967296) (h1 : 2147483648 ≤ yn1) (hu : un < Y) (hc : c < 4294967296) :
    un / yn1 ≤ 4294967297 ∧ un * 4294967296 + c < (un / yn1 + 1) * Y ∧ un = un / yn1 * yn1 + un % yn1 ∧ un % yn1 < yn1 := by
  have e : un = un / yn1 * yn1 + un % yn1 := by have := Nat.div_add_mod un yn1; rw [Nat.mul_comm] at this; exact this.symm
  have hm : un % yn1 < yn1 := Nat.mod_lt _ (by omega)
  refine ⟨?_, ?_, e, hm⟩
  · have h2 : un < 4294967298 * yn1 := by omega
    have := (Nat.div_lt_iff_lt_mul (show 0 < yn1 by omega)).2 h2
    omega
  · rw [Nat.add_mul, Nat.one_mul, kn_mul _ yn1 yn0 Y hY]
    generalize un / yn1 * yn1 = p at *
    generalize un / yn1 * yn0 = s at *
    omega

/-- the test says that the digit is too great -/
theorem kn_yes (un Y yn1 yn0 c q r : Nat) (hY : Y = yn1 * 4294967296 + yn0) (he : un = q * yn1 + r) (hu : un < Y) (hc : c < 4294967296) (hlt : un * 4294967296 + c < (q + 1) * Y)
    (h : 4294967296 ≤ q ∨ 4294967296 * r + c < q * yn0) : 1 ≤ q ∧ un * 4294967296 + c < (q - 1 + 1) * Y ∧ un = (q - 1) * yn1 + (r + yn1) := by
  have hX : un * 4294967296 + c < 4294967296 * Y := by omega
  have hq : 1 ≤ q := by
    rcases h with h | h
    · omega
    · rcases Nat.eq_zero_or_pos q with rfl | hp
      · omega
      · exact hp
  refine ⟨hq, ?_, ?_⟩
  · rw [Nat.sub_add_cancel hq]
    rcases h with h | h
    · exact Nat.lt_of_lt_of_le hX (Nat.mul_le_mul_right _ h)
    · rw [kn_mul _ yn1 yn0 Y hY]
      generalize q * yn1 = p at *
      generalize q * yn0 = s at *
      omega
  · rw [he]
    have : q * yn1 = (q - 1) * yn1 + yn1 := by
      conv => lhs; rw [← Nat.sub_add_cancel hq]
      rw [Nat.add_mul, Nat.one_mul]
    omega

/-- the test says that it isn't -/
theorem kn_no (un Y yn1 yn0 c q r : Nat) (hY : Y = yn1 * 4294967296 + yn0) (he : un = q * yn1 + r) (h : q * yn0 ≤ 4294967296 * r + c) : q * Y ≤ un * 4294967296 + c := by
  rw [kn_mul _ yn1 yn0 Y hY]
  generalize q * yn1 = p at *
  generalize q * yn0 = s at *
  omega
theorem kn_break (un Y yn1 yn0 c q r : Nat) (hY : Y = yn1 * 4294967296 + yn0) (h0 : yn0 < 4294967296) (he : un = q * yn1 + r) (hq : q ≤ 4294967296) (hr : 4294967296 ≤ r) : q * Y ≤ un * 4294967296 + c := by
  refine kn_no un Y yn1 yn0 c q r hY he ?_
  have : q * yn0 ≤ 4294967296 * 4294967296 := Nat.mul_le_mul hq (by omega)
  omega

theorem kn_digit (X Y q : Nat) (_ : 0 < Y) (h1 : q * Y ≤ X) (h2 : X < (q + 1) * Y) : q = X / Y ∧ X - q * Y = X % Y := by
  have e : X / Y = q := Nat.div_eq_of_lt_le h1 h2
  refine ⟨e.symm, ?_⟩
  have := Nat.div_add_mod X Y
  rw [e, Nat.mul_comm] at this
  omega

/-- the whole -/
theorem kn_all (N y s Y U V c1 c0 : Nat) (hy : 0 < y) (hYe : Y = y * 2 ^ s) (hN : N * 2 ^ s = U * 18446744073709551616 + V) (hV : V = c1 * 4294967296 + c0) :
    N / y = ((U * 4294967296 + c1) / Y) * 4294967296 + ((U * 4294967296 + c1) % Y * 4294967296 + c0) / Y ∧
    N % y = (((U * 4294967296 + c1) % Y * 4294967296 + c0) % Y) / 2 ^ s := by
  have hp : 0 < 2 ^ s := Nat.pow_pos (by decide)
  have hYp : 0 < Y := by rw [hYe]; exact Nat.mul_pos hy hp
  have e1 := Nat.div_add_mod (U * 4294967296 + c1) Y
  obtain ⟨q1, hq1⟩ : ∃ q1, (U * 4294967296 + c1) / Y = q1 := ⟨_, rfl⟩
  obtain ⟨r1, hr1⟩ : ∃ r1, (U * 4294967296 + c1) % Y = r1 := ⟨_, rfl⟩
  rw [hq1, hr1] at e1
  rw [hq1, hr1]
  have e2 := Nat.div_add_mod (r1 * 4294967296 + c0) Y
  have hr0 : (r1 * 4294967296 + c0) % Y < Y := Nat.mod_lt _ hYp
  obtain ⟨q0, hq0⟩ : ∃ q0, (r1 * 4294967296 + c0) / Y = q0 := ⟨_, rfl⟩
  obtain ⟨r0, hr0e⟩ : ∃ r0, (r1 * 4294967296 + c0) % Y = r0 := ⟨_, rfl⟩
  rw [hq0, hr0e] at e2
  rw [hr0e] at hr0
  rw [hq0, hr0e]
  have e3 : N * 2 ^ s = (q1 * 4294967296 + q0) * Y + r0 := by
    rw [Nat.add_mul, Nat.mul_comm q0 Y, show q1 * 4294967296 * Y = Y * q1 * 4294967296 from by rw [Nat.mul_comm q1, Nat.mul_assoc, Nat.mul_comm q1 Y, Nat.mul_comm], hN, hV]
    generalize Y * q1 = a at *
    generalize Y * q0 = b at *
    omega
  have e4 : N * 2 ^ s = ((q1 * 4294967296 + q0) * y) * 2 ^ s + r0 := by rw [e3, hYe, Nat.mul_assoc]
  obtain ⟨Q, hQ⟩ : ∃ Q, q1 * 4294967296 + q0 = Q := ⟨_, rfl⟩
  rw [hQ] at e3 e4
  rw [hQ]
  have hle : Q * y ≤ N := by
    have : Q * y * 2 ^ s ≤ N * 2 ^ s := by omega
    exact Nat.le_of_mul_le_mul_right this hp
  have e5 : r0 = (N - Q * y) * 2 ^ s := by rw [Nat.sub_mul]; omega
  have hlt : N - Q * y < y := by
    rw [e5, hYe] at hr0
    exact Nat.lt_of_mul_lt_mul_right hr0
  have e6 : N / y = Q := Nat.div_eq_of_lt_le hle (by rw [Nat.add_mul, Nat.one_mul]; omega)
  refine ⟨e6, ?_⟩
  have := Nat.div_add_mod N y
  rw [e6, Nat.mul_comm] at this
  rw [e5, Nat.mul_div_cancel _ hp]
  omega

/-- the normalised divisor -/
theorem kn_norm (y : Nat) (h1 : 1 ≤ y) (h2 : y < 18446744073709551616) : ∃ s : Nat, (Lib.bitLen y : Int) = 64 - s ∧ s ≤ 63 ∧ 9223372036854775808 ≤ y * 2 ^ s ∧ y * 2 ^ s < 18446744073709551616 := by
  obtain ⟨a, b, c⟩ := Lib.bitLenAux_bounds 64 y (by simpa using h2) (by omega)
  have hb : Lib.bitLen y = Lib.bitLenAux 64 y := rfl
  have h64 := Lib.bitLen_le y 64 (Nat.le_refl _) (by simpa using h2)
  rw [← hb] at a b c
  generalize Lib.bitLen y = n at *
  refine ⟨64 - n, by omega, by omega, ?_, ?_⟩
  · have : 2 ^ (n - 1) * 2 ^ (64 - n) ≤ y * 2 ^ (64 - n) := Nat.mul_le_mul_right _ b
    rw [← Nat.pow_add, show n - 1 + (64 - n) = 63 from by omega] at this
    exact this
  · have : y * 2 ^ (64 - n) < 2 ^ n * 2 ^ (64 - n) := Nat.mul_lt_mul_of_pos_right c (Nat.pow_pos (by decide))
    rw [← Nat.pow_add, show n + (64 - n) = 64 from by omega] at this
    exact this

/-- the dividend, shifted -/
theorem kn_shift (hi lo s : Nat) (hs : s ≤ 63) :
    (hi * 18446744073709551616 + lo) * 2 ^ s = (hi * 2 ^ s + lo / 2 ^ (64 - s)) * 18446744073709551616 + lo * 2 ^ s % 18446744073709551616 := by
  have e1 : lo * 2 ^ s / 18446744073709551616 = lo / 2 ^ (64 - s) := by
    have : (18446744073709551616 : Nat) = 2 ^ (64 - s) * 2 ^ s := by rw [← Nat.pow_add, show 64 - s + s = 64 from by omega]
    rw [this, Nat.mul_div_mul_right _ _ (Nat.pow_pos (by decide))]
  have e2 := Nat.div_add_mod (lo * 2 ^ s) 18446744073709551616
  rw [e1] at e2
  rw [Nat.add_mul, Nat.add_mul, show hi * 18446744073709551616 * 2 ^ s = hi * 2 ^ s * 18446744073709551616 from by rw [Nat.mul_assoc, Nat.mul_comm 18446744073709551616, ← Nat.mul_assoc]]
  generalize lo / 2 ^ (64 - s) = a at *
  omega

end Go.Proofs.YtmklkfogddppmaaDoor

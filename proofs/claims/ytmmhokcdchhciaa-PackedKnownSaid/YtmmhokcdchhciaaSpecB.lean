/- Layer 3 in plain Lean, more: when a text of digits is a number. -/
import Derived.Test.YtmmhokcdchhciaaSpecA
namespace Go.Proofs.Ytmmhokcdchhciaa

theorem ba_get (s : ByteArray) (k : Nat) (h : k < s.size) : s.data.toList[k]'(by simpa using h) = s[k] := rfl
theorem ba_len (s : ByteArray) : s.data.toList.length = s.size := by simp

/-- one digit -/
def digB (c : UInt8) : Bool := decide (48 ≤ c.toNat) && decide (c.toNat ≤ 57)

theorem validS_def (s : ByteArray) : validS s.data.toList = (decide (1 ≤ s.size) && decide (s.size ≤ 31) && !(decide (1 < s.size) && s.data.toList.head? == some 48) && s.data.toList.all digB) := by
  unfold validS; rw [ba_len]; rfl
theorem valid_short (s : ByteArray) (h : (s.size : Int) < 1) : validS s.data.toList = false := by
  rw [validS_def, decide_eq_false (by omega)]; rfl
theorem valid_long (s : ByteArray) (h : (31 : Int) < (s.size : Int)) : validS s.data.toList = false := by
  rw [validS_def, decide_eq_false (show ¬ s.size ≤ 31 by omega)]; simp
theorem head_ba (s : ByteArray) (h : 0 < s.size) : s.data.toList.head? = some s[0] := by
  rw [List.head?_eq_getElem?, List.getElem?_eq_getElem (by simpa using h)]; rfl
theorem valid_zero (s : ByteArray) (h1 : (1 : Int) < (s.size : Int)) (h : 0 < s.size) (h2 : ((s[0].toNat : Int) == 48) = true) : validS s.data.toList = false := by
  have e : s[0] = 48 := by
    have : s[0].toNat = 48 := by have := beq_iff_eq.1 h2; omega
    exact UInt8.toNat_inj.1 this
  rw [validS_def, head_ba s h, e, decide_eq_true (show 1 < s.size by omega)]; simp
theorem all_false {l : List UInt8} {k : Nat} (hk : k < l.length) (h : digB l[k] = false) : l.all digB = false := by
  rw [List.all_eq_false]; exact ⟨_, List.getElem_mem hk, by simp [h]⟩
theorem valid_bad (s : ByteArray) (k : Nat) (hk : k < s.size) (h : (s[k].toNat : Int) < 48 ∨ (57 : Int) < (s[k].toNat : Int)) : validS s.data.toList = false := by
  have : digB (s.data.toList[k]'(by simpa using hk)) = false := by
    rw [ba_get s k hk]; unfold digB
    rcases h with h | h
    · rw [decide_eq_false (by omega)]; rfl
    · rw [decide_eq_false (show ¬ s[k].toNat ≤ 57 by omega)]; simp
  rw [validS_def, all_false (by simpa using hk) this]; simp
theorem valid_good (s : ByteArray) (h1 : ¬ (s.size : Int) < 1) (h2 : ¬ (31 : Int) < (s.size : Int)) (h3 : (s.size : Int) ≤ 1 ∨ ∃ h : 0 < s.size, ((s[0].toNat : Int) == 48) = false)
    (h4 : (s.data.toList.take s.size).all digB = true) : validS s.data.toList = true := by
  rw [List.take_of_length_le (by simp)] at h4
  rw [validS_def, h4, decide_eq_true (show 1 ≤ s.size by omega), decide_eq_true (show s.size ≤ 31 by omega)]
  rcases h3 with h3 | ⟨h, h3⟩
  · rw [decide_eq_false (show ¬ 1 < s.size by omega)]; rfl
  · rw [head_ba s h]
    have : (some s[0] == some (48 : UInt8)) = false := by
      rw [beq_eq_false_iff_ne]; intro e
      simp only [Option.some.injEq] at e
      rw [e] at h3; simp at h3
    rw [this]; simp
theorem all_take_snoc {l : List UInt8} {k : Nat} (hk : k < l.length) (h : (l.take k).all digB = true) (h2 : digB l[k] = true) : (l.take (k + 1)).all digB = true := by
  rw [List.take_succ_eq_append_getElem hk, List.all_append, h]; simp [h2]
theorem digB_mk (c : UInt8) (h1 : (48 : Int) ≤ (c.toNat : Int)) (h2 : (c.toNat : Int) ≤ 57) : digB c = true := by
  unfold digB; rw [decide_eq_true (by omega), decide_eq_true (by omega)]; rfl

end Go.Proofs.Ytmmhokcdchhciaa

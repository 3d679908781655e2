/- The numbers that the laws of layer 3 build of any string. -/
import Derived.Test.YtmmhokcdchhciaaSpecE
namespace Go.Proofs.Ytmmhokcdchhciaa

def numStep (d : Bs) (c : UInt8) : Bs := (if d = [48] then [] else d) ++ [UInt8.ofNat (48 + c.toNat % 10)]
def numK (s : Bs) (k : Nat) : Bs := (s.take k).foldl numStep []
def numS (s : Bs) : Bs := if numK s 31 = [] then [48] else numK s 31

theorem numK_zero (s : Bs) : numK s 0 = [] := rfl
theorem numK_succ (s : ByteArray) (k : Nat) (h : k < s.size) : numK s.data.toList (k + 1) = numStep (numK s.data.toList k) s[k] := by
  unfold numK
  rw [List.take_succ_eq_append_getElem (by simpa using h), List.foldl_append]
  rfl
theorem numK_full (s : Bs) (k : Nat) (h : s.length ≤ k) (h2 : k ≤ 31) : numK s 31 = numK s k := by
  unfold numK
  rw [List.take_of_length_le h, List.take_of_length_le (by omega)]
theorem numStep_len (d : Bs) (c : UInt8) : 1 ≤ (numStep d c).length ∧ (numStep d c).length ≤ d.length + 1 := by
  unfold numStep; split <;> simp

/-- no leading zero but for the only digit -/
def headOk (d : Bs) : Prop := d.length ≤ 1 ∨ d.head? ≠ some 48
theorem numStep_head (d : Bs) (c : UInt8) (h : headOk d) : headOk (numStep d c) := by
  unfold numStep
  by_cases h1 : d = [48]
  · rw [if_pos h1]; exact .inl (by simp)
  · rw [if_neg h1]
    cases d with
    | nil => exact .inl (by simp)
    | cons x t =>
      refine .inr ?_
      rw [List.cons_append, List.head?_cons]
      intro e
      rcases h with h | h
      · simp only [List.length_cons] at h
        have : t = [] := List.eq_nil_of_length_eq_zero (by omega)
        subst this
        simp only [Option.some.injEq] at e
        exact h1 (by rw [e])
      · exact h (by rw [List.head?_cons]; exact e)
theorem numStep_dig (d : Bs) (c : UInt8) (h : ∀ x ∈ d, 48 ≤ x.toNat ∧ x.toNat ≤ 57) : ∀ x ∈ numStep d c, 48 ≤ x.toNat ∧ x.toNat ≤ 57 := by
  intro x hx
  unfold numStep at hx
  rcases List.mem_append.1 hx with hx | hx
  · split at hx
    · simp at hx
    · exact h x hx
  · simp only [List.mem_singleton] at hx
    rw [hx, toNat_ofNat (by omega)]
    omega
theorem numK_inv (s : Bs) (k : Nat) : (numK s k).length ≤ k ∧ headOk (numK s k) ∧ ∀ x ∈ numK s k, 48 ≤ x.toNat ∧ x.toNat ≤ 57 := by
  have key : ∀ (l : Bs) (d : Bs), headOk d → (∀ x ∈ d, 48 ≤ x.toNat ∧ x.toNat ≤ 57) → (l.foldl numStep d).length ≤ d.length + l.length ∧ headOk (l.foldl numStep d) ∧ ∀ x ∈ l.foldl numStep d, 48 ≤ x.toNat ∧ x.toNat ≤ 57 := by
    intro l
    induction l with
    | nil => exact fun d h1 h2 => ⟨by simp, h1, h2⟩
    | cons c t ih =>
      intro d h1 h2
      have := ih (numStep d c) (numStep_head d c h1) (numStep_dig d c h2)
      rw [List.foldl_cons]
      refine ⟨?_, this.2⟩
      have h3 := (numStep_len d c).2
      rw [List.length_cons]
      omega
  have := key (s.take k) [] (.inl (by simp)) (by simp)
  unfold numK
  refine ⟨?_, this.2⟩
  have h1 := this.1
  rw [List.length_take] at h1
  simp only [List.length_nil] at h1
  omega
theorem numS_valid (s : Bs) : validS (numS s) = true := by
  obtain ⟨h1, h2, h3⟩ := numK_inv s 31
  unfold numS
  split
  · rfl
  · rename_i hne
    have hl : 1 ≤ (numK s 31).length := List.length_pos_iff.2 hne
    unfold validS
    rw [decide_eq_true hl, decide_eq_true h1]
    have h4 : (decide (1 < (numK s 31).length) && (numK s 31).head? == some 48) = false := by
      rcases h2 with h | h
      · rw [decide_eq_false (by omega)]; rfl
      · rw [beq_eq_false_iff_ne.2 h, Bool.and_false]
    rw [h4]
    have h5 : ((numK s 31).all fun c => decide (48 ≤ c.toNat) && decide (c.toNat ≤ 57)) = true := by
      rw [List.all_eq_true]
      intro x hx
      obtain ⟨a, b⟩ := h3 x hx
      rw [decide_eq_true a, decide_eq_true b]; rfl
    rw [h5]; rfl
theorem numS_len (s : Bs) : 1 ≤ (numS s).length ∧ (numS s).length ≤ 31 := by
  unfold numS
  split
  · simp
  · rename_i h; exact ⟨List.length_pos_iff.2 h, (numK_inv s 31).1⟩

end Go.Proofs.Ytmmhokcdchhciaa

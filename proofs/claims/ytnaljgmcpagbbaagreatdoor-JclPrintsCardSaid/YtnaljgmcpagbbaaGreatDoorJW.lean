import Derived.Outline
import Derived.Test.YtnaljgmcpagbbaaGreatDoorJV
/- Layer 34: a statement. -/
-- SIMP: beq_self_eq_true, Bool.and_self, List.take_length
namespace Go.Proofs.YtnaljgmcpagbbaaGreatDoor
open Go.RowKit
set_option linter.unusedVariables false
set_option linter.unusedSimpArgs false
theorem operJ_len : ∀ (s : Jb) (q : Bool), (operJ s q).1.length ≤ s.length
  | [], q => Nat.le_refl _
  | c :: t, q => by
    rw [operJ_step]
    split
    · have := operJ_len t (!q); simp only [List.length_cons]; omega
    · split
      · simp
      · have := operJ_len t q; simp only [List.length_cons]; omega
theorem takeW_len (p : UInt8 → Bool) (s : Jb) : (s.takeWhile p).length ≤ s.length := by
  induction s with
  | nil => simp
  | cons c t ih => rw [List.takeWhile_cons]; split <;> simp only [List.length_cons, List.length_nil] <;> omega
theorem dropW_len (p : UInt8 → Bool) (s : Jb) : (s.dropWhile p).length ≤ s.length := by
  induction s with
  | nil => simp
  | cons c t ih => rw [List.dropWhile_cons]; split <;> simp only [List.length_cons] <;> omega
theorem cut1_len (s : Jb) : (cut1J s).1.length ≤ s.length ∧ (cut1J s).2.length ≤ s.length := by
  refine ⟨takeW_len _ s, ?_⟩
  have h1 := dropW_len (· != 32) s
  have h2 := dropW_len (· == 32) (s.dropWhile (· != 32))
  exact Nat.le_trans h2 h1
theorem size_cons (l : Jb) (t : List Jb) : sizeJ (l :: t) = l.length + sizeJ t := by simp [sizeJ]
theorem contJ_size {n : Nat} : ∀ (t : List Jb) (i : Nat) {g : Jb} {t2 : List Jb} {i2 : Nat}, contJ n t i = .inr (g, t2, i2) → g.length + sizeJ t2 ≤ sizeJ t
  | [], i, g, t2, i2, h => by cases h
  | l :: t, i, g, t2, i2, h => by
    rw [contJ_cons] at h
    rw [size_cons]
    split at h
    · have := contJ_size t (i + 1) h; omega
    · split at h
      · cases h
      · split at h
        · cases h
        · simp only [Sum.inr.injEq, Prod.mk.injEq] at h
          obtain ⟨rfl, rfl, rfl⟩ := h
          have h1 := operJ_len (blankJ (l.drop 2)) false
          have h2 := blank_len (l.drop 2)
          rw [List.length_drop] at h2
          omega
theorem suffix_drop {L t2 : List Jb} {j i2 : Nat} (pre : List Jb) (h : L.drop j = pre ++ t2) (hi : i2 + t2.length = j + (L.drop j).length) (hj : j ≤ L.length) : t2 = L.drop i2 ∧ i2 ≤ L.length ∧ i2 = j + pre.length := by
  have hl := congrArg List.length h
  rw [List.length_append] at hl
  have e : i2 = j + pre.length := by omega
  have hd : (L.drop j).length = L.length - j := List.length_drop
  refine ⟨?_, by omega, e⟩
  rw [e, ← List.drop_drop, h]; simp
theorem ends_comma (f : Jb) : endsJ f [44] = (f.getLastD 0 == 44) := by
  rcases list_snoc f with rfl | ⟨t, x, rfl⟩
  · rfl
  · unfold endsJ
    simp
theorem fieldJ_succ (n k : Nat) (f : Jb) (t : List Jb) (i : Nat) : fieldJ n (k + 1) f t i = if f.getLastD 0 == 44 then match contJ n t i with
      | .inl b => .inl b
      | .inr (g, t2, i2) => fieldJ n k (f ++ g) t2 i2
    else .inr (f, t, i) := rfl
theorem cutJ_len (s : Jb) : ∀ (l : List Nat) (a : Nat), (cutJ s a l).length = l.length + 1
  | [], a => rfl
  | i :: is, a => by rw [cutJ, List.length_cons, cutJ_len s is, List.length_cons]
theorem cutJ_mem (s : Jb) : ∀ (l : List Nat) (a : Nat), ∀ w ∈ cutJ s a l, w.length ≤ s.length
  | [], a, w, h => by
    rw [cutJ, List.mem_singleton] at h
    subst h; rw [List.length_drop]; omega
  | i :: is, a, w, h => by
    rw [cutJ] at h
    rcases List.mem_cons.1 h with rfl | h
    · rw [List.length_drop, List.length_take]; omega
    · exact cutJ_mem s is _ w h
theorem splitJ_len {s : Jb} {ws : List Jb} (h : splitJ s = some ws) : ws.length ≤ s.length + 1 ∧ ∀ w ∈ ws, w.length ≤ s.length := by
  unfold splitJ at h
  split at h
  · injection h with h; subst h
    refine ⟨?_, cutJ_mem s _ _⟩
    rw [cutJ_len]
    have h1 := walkJ_cnt s 0 0 false
    have h1 : (visJ s).length ≤ s.length := h1
    have h2 : (commaJ s).length ≤ (visJ s).length := by unfold commaJ; rw [List.length_map]; exact List.length_filter_le _ _
    omega
  · cases h
def stmN (s : StmJ) : V := .agg [.int .i64 s.line, .str s.name, .str s.op, prmsV s.params, .nil]
def stm0 : V := .agg [.int .i64 0, .str [], .str [], prmsV [], .nil]
def stmtV (R : Nat ⊕ (StmJ × List Jb × Nat)) : V := match R with
  | .inl b => .tup [stm0, .int .i64 (b : Int)]
  | .inr (s, _, _) => .tup [stmN s, .int .i64 0]
attribute [go_sem] stmN stm0
def stmtA (n : Nat) (l : Jb) (t : List Jb) (i : Nat) : Nat :=
  if !(operJ (cut1J (cut1J (l.drop 2)).2).2 false).2 || !labelJ (cut1J (l.drop 2)).1 || !opJ (cut1J (cut1J (l.drop 2)).2).1 then i
  else match fieldJ n (t.length + 1) (operJ (cut1J (cut1J (l.drop 2)).2).2 false).1 t (i + 1) with
    | .inl b => b
    | .inr (_, _, i2) => i2
theorem stmtA_ok {n : Nat} {l : Jb} {t : List Jb} {i : Nat} {s : StmJ} {t2 : List Jb} {i2 : Nat} (h : stmtJ n l t i = .inr (s, t2, i2)) : stmtA n l t i = i2 := by
  unfold stmtJ at h
  unfold stmtA
  dsimp only at h
  split at h
  · cases h
  · rename_i q
    rw [if_neg q]
    split at h
    · cases h
    · rename_i g t2' i2' hf
      rw [hf]
      simp only
      split at h
      · simp only [Sum.inr.injEq, Prod.mk.injEq] at h; exact h.2.2
      · split at h
        · cases h
        · split at h
          · cases h
          · simp only [Sum.inr.injEq, Prod.mk.injEq] at h; exact h.2.2
def restJ (i : Nat) (name op : Jb) (g : Jb) : V :=
  if g.isEmpty then .tup [stmN ⟨(i : Int) + 1, name, op, [], []⟩, .int .i64 0]
  else match splitJ g with
    | none => .tup [stm0, .int .i64 ((i + 1 : Nat) : Int)]
    | some ws => match parsesJ ws with
      | none => .tup [stm0, .int .i64 ((i + 1 : Nat) : Int)]
      | some ps => .tup [stmN ⟨(i : Int) + 1, name, op, ps, []⟩, .int .i64 0]
theorem stmt_rest (n : Nat) (l : Jb) (t : List Jb) (i : Nat) (hh : (!(operJ (cut1J (cut1J (l.drop 2)).2).2 false).2 || !labelJ (cut1J (l.drop 2)).1 || !opJ (cut1J (cut1J (l.drop 2)).2).1) = false) :
    stmtV (stmtJ n l t i) = (match fieldJ n (t.length + 1) (operJ (cut1J (cut1J (l.drop 2)).2).2 false).1 t (i + 1) with
      | .inl b => .tup [stm0, .int .i64 (b : Int)]
      | .inr (g, _, _) => restJ i (cut1J (l.drop 2)).1 (cut1J (cut1J (l.drop 2)).2).1 g) := by
  unfold stmtJ
  dsimp only
  rw [if_neg (by rw [hh]; decide)]
  cases fieldJ n (t.length + 1) (operJ (cut1J (cut1J (l.drop 2)).2).2 false).1 t (i + 1) with
  | inl b => rfl
  | inr x =>
    obtain ⟨g, t2, i2⟩ := x
    simp only
    unfold restJ
    split
    · rfl
    · cases splitJ g with
      | none => rfl
      | some ws =>
        simp only
        cases parsesJ ws with
        | none => rfl
        | some ps => rfl
theorem parses_step (w : Jb) (t : List Jb) : parsesJ (w :: t) = match parseJ w, parsesJ t with
    | some p, some ps => some (p :: ps)
    | _, _ => none := rfl
end Go.Proofs.YtnaljgmcpagbbaaGreatDoor

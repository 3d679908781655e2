import Derived.Outline
import Derived.Test.YtnaljgmcpagbbaaDoorKE
import Derived.Test.YtnaljgmcpagbbaaDoorJE
/- Layer 34 in plain Lean: how large what is read can be. -/
namespace Go.Proofs.YtnaljgmcpagbbaaDoor
open Go.RowKit
set_option linter.unusedVariables false
set_option linter.unusedSimpArgs false
theorem fieldJ_size {n : Nat} : ∀ (k : Nat) (f : Jb) (t : List Jb) (i : Nat) {g : Jb} {t2 : List Jb} {i2 : Nat}, fieldJ n k f t i = .inr (g, t2, i2) → g.length + sizeJ t2 ≤ f.length + sizeJ t
  | 0, f, t, i, g, t2, i2, h => by
    simp only [fieldJ, Sum.inr.injEq, Prod.mk.injEq] at h
    obtain ⟨rfl, rfl, rfl⟩ := h; exact Nat.le_refl _
  | k + 1, f, t, i, g, t2, i2, h => by
    rw [fieldJ_succ] at h
    split at h
    · split at h
      · cases h
      · rename_i f2 t3 i3 hc
        have h1 := contJ_size _ _ hc
        have h2 := fieldJ_size k _ _ _ h
        rw [List.length_append] at h2
        omega
    · simp only [Sum.inr.injEq, Prod.mk.injEq] at h
      obtain ⟨rfl, rfl, rfl⟩ := h; exact Nat.le_refl _
theorem parses_mem : ∀ (ws : List Jb) {ps : List PrmJ}, parsesJ ws = some ps → ps.length = ws.length ∧ ∀ p ∈ ps, ∃ w ∈ ws, parseJ w = some p
  | [], ps, h => by injection h with h; subst h; exact ⟨rfl, fun p hp => by cases hp⟩
  | w :: t, ps, h => by
    rw [parses_step] at h
    split at h
    · rename_i p qs h1 h2
      injection h with h; subst h
      obtain ⟨k1, k2⟩ := parses_mem t h2
      refine ⟨by simp [k1], fun q hq => ?_⟩
      rcases List.mem_cons.1 hq with rfl | hq
      · exact ⟨w, List.mem_cons_self, h1⟩
      · obtain ⟨w', hw, he⟩ := k2 q hq
        exact ⟨w', List.mem_cons_of_mem _ hw, he⟩
    · cases h
theorem stmtJ_size {n : Nat} {l : Jb} {t : List Jb} {i : Nat} {s : StmJ} {t2 : List Jb} {i2 : Nat} (h : stmtJ n l t i = .inr (s, t2, i2)) :
    s.params.length ≤ l.length + sizeJ t + 1 ∧ (∀ p ∈ s.params, p.parts.length ≤ l.length + sizeJ t + 1) ∧ sizeJ t2 ≤ sizeJ t := by
  have c1 := cut1_len (l.drop 2)
  have c2 := cut1_len (cut1J (l.drop 2)).2
  have c3 := operJ_len (cut1J (cut1J (l.drop 2)).2).2 false
  have c4 : (l.drop 2).length = l.length - 2 := List.length_drop
  unfold stmtJ at h
  dsimp only at h
  have hf0 : (operJ (cut1J (cut1J (l.drop 2)).2).2 false).1.length ≤ l.length := by omega
  split at h
  · cases h
  · split at h
    · cases h
    · rename_i g t2' i2' hf
      have hs := fieldJ_size _ _ _ _ hf
      have hst : sizeJ t2' ≤ sizeJ t := by
        obtain ⟨pre, hp, _⟩ := fieldJ_pre _ _ _ _ (Nat.lt_succ_self _) hf
        rw [hp, sizeJ_app]; omega
      split at h
      · simp only [Sum.inr.injEq, Prod.mk.injEq] at h
        obtain ⟨rfl, rfl, rfl⟩ := h
        exact ⟨by simp, (fun p hp => by cases hp), hst⟩
      · split at h
        · cases h
        · rename_i ws hw
          split at h
          · cases h
          · rename_i ps hp
            simp only [Sum.inr.injEq, Prod.mk.injEq] at h
            obtain ⟨rfl, rfl, rfl⟩ := h
            obtain ⟨k1, k2⟩ := splitJ_len hw
            obtain ⟨q1, q2⟩ := parses_mem _ hp
            refine ⟨by simp only; omega, fun p hp => ?_, hst⟩
            obtain ⟨w, hw1, hw2⟩ := q2 p hp
            have := k2 w hw1
            have := parseJ_parts hw2
            omega
structure ReadS (a n z : Nat) (s : StmJ) : Prop where
  l0 : (a : Int) < s.line
  l1 : s.line ≤ (n : Int)
  dl : s.data.length ≤ n
  pl : s.params.length ≤ z + 1
  pp : ∀ p ∈ s.params, p.parts.length ≤ z + 1
theorem deckJ_size {n : Nat} : ∀ (k : Nat) (t : List Jb) (i : Nat) {ss : List StmJ}, deckJ n k t i = .inr ss → ss.length ≤ t.length ∧ ∀ s ∈ ss, ReadS i (i + t.length) (sizeJ t) s
  | k, [], i, ss, h => by
    have h : (.inr [] : Nat ⊕ List StmJ) = .inr ss := by rw [← h]; cases k <;> rfl
    injection h with h; subst h
    exact ⟨Nat.le_refl _, fun s hs => by cases hs⟩
  | 0, l :: t, i, ss, h => by cases h
  | k + 1, l :: t, i, ss, h => by
    rw [deckJ_cons] at h
    rw [size_cons]
    split at h
    · cases h
    · split at h
      · obtain ⟨h1, h2⟩ := deckJ_size k t (i + 1) h
        refine ⟨by simp only [List.length_cons]; omega, fun s hs => ?_⟩
        obtain ⟨g1, g2, g3, g4, g5⟩ := h2 s hs
        exact ⟨by omega, by simp only [List.length_cons]; omega, by simp only [List.length_cons]; omega, by omega, fun p hp => by have := g5 p hp; omega⟩
      · split at h
        · cases h
        · split at h
          · cases h
          · rename_i s t2 i2 hs
            obtain ⟨s1, s2, s3, s4⟩ := stmtJ_len hs
            obtain ⟨s5, s6, s7⟩ := stmtJ_size hs
            split at h
            · cases h
            · rename_i d t3 i3 hd
              have d1 := dataJ_len _ _ hd
              have d2 := dataJ_dcol _ _ hd
              obtain ⟨pre, hpre⟩ := dataJ_suf _ _ hd
              have d3 : sizeJ t3 ≤ sizeJ t2 := by rw [hpre, sizeJ_app]; omega
              have d4 : d.length ≤ t2.length := by
                rw [d2]
                have : ∀ (kd : Nat) (t : List Jb), (dcol kd t).length ≤ t.length := by
                  intro kd t
                  induction t with
                  | nil => exact Nat.le_refl _
                  | cons a t ih =>
                    rw [dcol_cons]
                    split
                    · simp
                    · split
                      · simp
                      · split
                        · simp
                        · split
                          · simp
                          · simp only [List.length_cons]; omega
                exact this _ _
              split at h
              · cases h
              · rename_i ss' hss
                injection h with h; subst h
                obtain ⟨h1, h2⟩ := deckJ_size k t3 i3 hss
                refine ⟨by simp only [List.length_cons]; omega, fun x hx => ?_⟩
                rcases List.mem_cons.1 hx with rfl | hx
                · refine ⟨by simp only; omega, by simp only [List.length_cons]; omega, by simp only [List.length_cons]; omega, by simp only; omega, fun p hp => by have := s6 p hp; omega⟩
                · obtain ⟨g1, g2, g3, g4, g5⟩ := h2 x hx
                  exact ⟨by omega, by simp only [List.length_cons]; omega, by simp only [List.length_cons]; omega, by omega, fun p hp => by have := g5 p hp; omega⟩
theorem scanJ_size {L : List Jb} {ss : List StmJ} (h : scanJ L = (ss, 0, 0)) : ss.length ≤ L.length ∧ ∀ s ∈ ss, ReadS 0 L.length (sizeJ L) s := by
  by_cases hl : 65536 < sizeJ L
  · rw [scanJ_long hl] at h; simp at h
  · rcases scanJ_short hl with ⟨s, h1, h2⟩ | ⟨b, h0, h1, h2⟩
    · rw [h2] at h; injection h with h; subst h
      have := deckJ_size _ _ _ h1
      simpa using this
    · rw [h2] at h; simp at h
theorem size_le (l : List Jb) (m : Nat) (h : ∀ x ∈ l, x.length ≤ m) : sizeJ l ≤ l.length * m := by
  induction l with
  | nil => simp [sizeJ]
  | cons a t ih =>
    rw [size_cons, List.length_cons, Nat.succ_mul]
    have := h a List.mem_cons_self
    have := ih (fun x hx => h x (List.mem_cons_of_mem _ hx))
    omega
theorem big_size {l : List Jb} (h : bigJ l = false) : l.length ≤ 60 ∧ sizeJ l ≤ 18000 := by
  obtain ⟨h1, h2⟩ := bigJ_no h
  have := size_le l 300 h2
  have : l.length * 300 ≤ 60 * 300 := Nat.mul_le_mul_right _ h1
  exact ⟨h1, by omega⟩
theorem contJ_le {n : Nat} : ∀ (t : List Jb) (i : Nat) {b : Nat}, i + t.length ≤ n → contJ n t i = .inl b → b ≤ n
  | [], i, b, hi, h => by injection h with h; omega
  | l :: t, i, b, hi, h => by
    rw [List.length_cons] at hi
    rw [contJ_cons] at h
    split at h
    · exact contJ_le t (i + 1) (by omega) h
    · split at h
      · injection h with h; omega
      · split at h
        · injection h with h; omega
        · cases h
theorem fieldJ_le {n : Nat} : ∀ (k : Nat) (f : Jb) (t : List Jb) (i : Nat) {b : Nat}, i + t.length ≤ n → fieldJ n k f t i = .inl b → b ≤ n
  | 0, f, t, i, b, hi, h => by cases h
  | k + 1, f, t, i, b, hi, h => by
    rw [fieldJ_succ] at h
    split at h
    · split at h
      · rename_i b' hc
        injection h with h; subst h
        exact contJ_le _ _ hi hc
      · rename_i g t2 i2 hc
        have := contJ_len _ _ hc
        exact fieldJ_le k _ _ _ (by omega) h
    · cases h
theorem stmtJ_le {n : Nat} {l : Jb} {t : List Jb} {i b : Nat} (hi : i + 1 + t.length ≤ n) (h : stmtJ n l t i = .inl b) : b ≤ n := by
  unfold stmtJ at h
  dsimp only at h
  split at h
  · injection h with h; omega
  · split at h
    · rename_i b' hf
      injection h with h; subst h
      exact fieldJ_le _ _ _ _ hi hf
    · split at h
      · cases h
      · split at h
        · injection h with h; omega
        · split at h
          · injection h with h; omega
          · cases h
theorem dataJ_le {k n : Nat} : ∀ (t : List Jb) (i : Nat) {b : Nat}, i + t.length ≤ n → dataJ k t i = .inl b → b ≤ n
  | [], i, b, hi, h => by cases h
  | l :: t, i, b, hi, h => by
    rw [List.length_cons] at hi
    rw [dataJ_cons] at h
    split at h
    · cases h
    · split at h
      · cases h
      · split at h
        · injection h with h; omega
        · split at h
          · cases h
          · split at h
            · rename_i b' hr
              injection h with h; subst h
              exact dataJ_le t (i + 1) (by omega) hr
            · cases h
theorem deckJ_le {n : Nat} : ∀ (k : Nat) (t : List Jb) (i : Nat) {b : Nat}, i + t.length ≤ n → deckJ n k t i = .inl b → b ≤ n
  | k, [], i, b, hi, h => by cases k <;> cases h
  | 0, l :: t, i, b, hi, h => by injection h with h; omega
  | k + 1, l :: t, i, b, hi, h => by
    rw [List.length_cons] at hi
    rw [deckJ_cons] at h
    split at h
    · injection h with h; omega
    · split at h
      · exact deckJ_le k t (i + 1) (by omega) h
      · split at h
        · injection h with h; omega
        · split at h
          · rename_i b' hs
            injection h with h; subst h
            exact stmtJ_le (by omega) hs
          · rename_i s t2 i2 hs
            have h1 := stmtJ_len hs
            split at h
            · rename_i b' hd
              injection h with h; subst h
              exact dataJ_le _ _ (by omega) hd
            · rename_i d t3 i3 hd
              have h2 := dataJ_len _ _ hd
              split at h
              · rename_i b' hk
                injection h with h; subst h
                exact deckJ_le k _ _ (by omega) hk
              · cases h
theorem scan_two {L : List Jb} (h : sizeJ L ≤ 65536) : (∃ ss, scanJ L = (ss, 0, 0)) ∨ ∃ b : Nat, 0 < b ∧ b ≤ L.length ∧ scanJ L = ([], (b : Int), 340) := by
  rcases scanJ_short (L := L) (by omega) with ⟨s, h1, h2⟩ | ⟨b, h0, h1, h2⟩
  · exact .inl ⟨s, h2⟩
  · exact .inr ⟨b, h0, deckJ_le _ _ _ (by simp) h1, h2⟩
theorem getElem_map {α β : Type} {f : α → β} {l : List α} {i : Nat} {x : β} (h : (l.map f)[i]? = some x) : ∃ y, l[i]? = some y ∧ f y = x := by
  rw [List.getElem?_map] at h
  cases hl : l[i]? with
  | none => rw [hl] at h; cases h
  | some y => rw [hl] at h; injection h with h; exact ⟨y, rfl, h⟩
theorem shifted_of (a b : List StmJ) (d n z m w : Nat) (hd : d ≤ 1000000) (hl : a.length + b.length ≤ 1000000) (ha : ∀ s ∈ a, ReadS 0 n z s) (hb : ∀ s ∈ b, ReadS 0 m w s) (hn : n ≤ 1000000) (hz : z ≤ 1000000) (hm : m ≤ 1000000) (hw : w ≤ 1000000) :
    Spec Tryd.prog 28 [stmsV (a ++ b.map (shJ d)), stmsV a, stmsV b, .int .i64 (d : Int)] (.bool true) := by
  refine shifted_spec a b (b.map (shJ d)) d hd (by simp) hl (fun i x y hx hy => ?_) (fun s hs => ?_)
  · obtain ⟨y', hy', rfl⟩ := getElem_map hx
    rw [hy] at hy'; injection hy' with hy'; subst hy'
    have := hb y (List.mem_of_getElem? hy)
    have h0 := this.l0
    have h1 := this.l1
    exact ⟨⟨(fun e => by cases e), rfl, rfl, rfl, rfl⟩, rfl, by omega, by omega⟩
  · rcases List.mem_append.1 hs with h | h
    · have := ha s h
      exact ⟨by have := this.pl; omega, by have := this.dl; omega, fun p hp => by have := this.pp p hp; omega⟩
    · have := hb s h
      exact ⟨by have := this.pl; omega, by have := this.dl; omega, fun p hp => by have := this.pp p hp; omega⟩
end Go.Proofs.YtnaljgmcpagbbaaDoor

/- Layer 3 in plain Lean, more: what Unpack has written after the digits p. -/
import Derived.Test.YtmklkfogddppmaaDoorKSpecD
import Derived.Test.YtmklkfogddppmaaDoorKIter
namespace Go.Proofs.YtmklkfogddppmaaDoor

/-- The row that Unpack has after the digits p. -/
def unpR (n : Nat) (p : List Nat) : Bs := (List.range n).map fun i => UInt8.ofNat (16 * (if i = n - 1 ∧ p ≠ [] then p.getD 0 0 else 15) + p.getD (n - i) 0)
theorem unpR_length (n : Nat) (p : List Nat) : (unpR n p).length = n := by simp [unpR]
theorem unpR_get (n : Nat) (p : List Nat) (i : Nat) (h : i < (unpR n p).length) : (unpR n p)[i] = UInt8.ofNat (16 * (if i = n - 1 ∧ p ≠ [] then p.getD 0 0 else 15) + p.getD (n - i) 0) := by simp [unpR]
theorem unpR_first (n d : Nat) (h : 1 ≤ n) : unpR n [d] = (unpR n []).set (n - 1) (UInt8.ofNat (16 * d)) := by
  refine List.ext_getElem (by simp [unpR_length]) fun i h1 h2 => ?_
  have hi : i < n := by rw [unpR_length] at h1; exact h1
  rw [unpR_get, List.getElem_set, unpR_get]
  by_cases hc : n - 1 = i
  · subst hc
    rw [if_pos rfl, if_pos ⟨rfl, by simp⟩, show n - (n - 1) = 1 from by omega]; simp
  · rw [if_neg hc, if_neg (by omega), if_neg (by omega)]
    have : n - i = (n - i - 1) + 1 := by omega
    rw [this]; simp
theorem unpR_step (n : Nat) (p : List Nat) (d : Nat) (h1 : 1 ≤ p.length) (h2 : p.length ≤ n) :
    unpR n (p ++ [d]) = (unpR n p).set (n - p.length) (UInt8.ofNat (16 * (if p.length = 1 then p.getD 0 0 else 15) + d)) := by
  have hp : p ≠ [] := by intro e; subst e; simp at h1
  have hp0 : (p ++ [d]).getD 0 0 = p.getD 0 0 := by rw [getD_snoc, if_neg (by omega)]
  refine List.ext_getElem (by simp [unpR_length]) fun i h3 h4 => ?_
  have hi : i < n := by rw [unpR_length] at h3; exact h3
  rw [unpR_get, List.getElem_set, unpR_get, hp0, getD_snoc]
  by_cases hc : n - p.length = i
  · rw [if_pos hc, if_pos (show n - i = p.length by omega)]
    congr 3
    by_cases h5 : p.length = 1
    · rw [if_pos h5, if_pos ⟨by omega, by simp⟩]
    · rw [if_neg h5, if_neg (by omega)]
  · rw [if_neg hc, if_neg (show ¬ n - i = p.length by omega)]
    simp [hp]
theorem unpR_at (n : Nat) (p : List Nat) (h1 : 1 ≤ p.length) (h2 : p.length ≤ n) : (unpR n p)[n - p.length]? = some (UInt8.ofNat (16 * (if p.length = 1 then p.getD 0 0 else 15))) := by
  have hp : p ≠ [] := by intro e; subst e; simp at h1
  rw [List.getElem?_eq_getElem (by rw [unpR_length]; omega), unpR_get, show n - (n - p.length) = p.length from by omega, getD_ge p _ (Nat.le_refl _)]
  congr 2
  by_cases h5 : p.length = 1
  · rw [if_pos h5, if_pos ⟨by omega, hp⟩]; rfl
  · rw [if_neg h5, if_neg (by omega)]
theorem unpR_at0 (n : Nat) (h : 1 ≤ n) : (unpR n [])[n - 1]? = some 240 := by
  rw [List.getElem?_eq_getElem (by rw [unpR_length]; omega), unpR_get]; simp
theorem unpR_more (n : Nat) (p : List Nat) (d : Nat) (h : n + 1 ≤ p.length) : unpR n (p ++ [d]) = unpR n p := by
  have hp : p ≠ [] := by intro e; subst e; simp at h
  unfold unpR
  refine List.map_congr_left fun i hi => ?_
  have hi' : i < n := by simpa using hi
  rw [show (p ++ [d]).getD 0 0 = p.getD 0 0 from by rw [getD_snoc, if_neg (by omega)], show (p ++ [d]).getD (n - i) 0 = p.getD (n - i) 0 from by rw [getD_snoc, if_neg (by omega)]]
  simp [hp]
theorem unpR_full (n : Nat) (p : List Nat) (hp : p ≠ []) : unpR n p = unpF n p := by
  unfold unpR unpF
  exact List.map_congr_left fun i _ => by simp [hp]
theorem getD_prefix {p q : List Nat} (h : p <+: q) (i : Nat) (hi : i < p.length) : q.getD i 0 = p.getD i 0 := by
  obtain ⟨t, rfl⟩ := h
  rw [List.getD_eq_getElem?_getD, List.getElem?_append_left hi, ← List.getD_eq_getElem?_getD]
theorem unpR_prefix (n : Nat) (p q : List Nat) (h : p <+: q) (hl : n + 1 ≤ p.length) : unpR n p = unpF n q := by
  have hp : p ≠ [] := by intro e; subst e; simp at hl
  unfold unpR unpF
  refine List.map_congr_left fun i hi => ?_
  have hi' : i < n := by simpa using hi
  rw [getD_prefix h 0 (by omega), getD_prefix h (n - i) (by omega)]
  simp [hp]
/-- The row that the first loop of Unpack has filled. -/
def filK (n k : Nat) : Bs := (List.range n).map fun i => if i < k then 240 else 0
theorem filK_length (n k : Nat) : (filK n k).length = n := by simp [filK]
theorem filK_get (n k i : Nat) (h : i < (filK n k).length) : (filK n k)[i] = if i < k then 240 else 0 := by simp [filK]
theorem filK_zero (n : Nat) : filK n 0 = List.replicate n 0 := by
  refine List.ext_getElem (by simp [filK_length]) fun i h1 h2 => ?_
  rw [filK_get]; simp
theorem filK_succ (n k : Nat) : filK n (k + 1) = (filK n k).set k 240 := by
  refine List.ext_getElem (by simp [filK_length]) fun i h1 h2 => ?_
  rw [filK_get, List.getElem_set, filK_get]
  by_cases hc : k = i
  · rw [if_pos (by omega), if_pos hc]
  · rw [if_neg hc]
    by_cases h3 : i < k
    · rw [if_pos h3, if_pos (by omega)]
    · rw [if_neg h3, if_neg (by omega)]
theorem filK_at (n k : Nat) (h : k < n) : (filK n k)[k]? = some 0 := by
  rw [List.getElem?_eq_getElem (by rw [filK_length]; omega), filK_get, if_neg (by omega)]
theorem filK_full (n : Nat) : filK n n = unpR n [] := by
  refine List.ext_getElem (by simp [filK_length, unpR_length]) fun i h1 h2 => ?_
  rw [filK_get, unpR_get, if_pos (by rw [filK_length] at h1; exact h1)]; simp
theorem unpackS_eq (b : Bs) (m : Nat) (h1 : okSize b.length = true) (h2 : okSize m = true) : unpackS b m = unpF m (nibr b) := by
  unfold unpackS; rw [h1, h2]; rfl
theorem unpackS_bad (b : Bs) (n : Int) (h : ¬ okSize b.length = true ∨ ¬ okSize n = true) : unpackS b n = [] := by
  unfold unpackS; rcases h with h | h <;> simp [h]
theorem unpF_length (n : Nat) (p : List Nat) : (unpF n p).length = n := by simp [unpF]

end Go.Proofs.YtmklkfogddppmaaDoor

/- The numbers that the laws of layer 3 build of any string. -/
namespace Go.Proofs.YtmklkfogddppmaaDoor

def numStep (d : Bs) (c : UInt8) : Bs := (if d = [48] then [] else d) ++ [UInt8.ofNat (48 + c.toNat % 10)]
def numK (s : Bs) (k : Nat) : Bs := (s.take k).foldl numStep []
def numS (s : Bs) : Bs := if numK s 31 = [] then [48] else numK s 31

theorem numK_zero (s : Bs) : numK s 0 = [] := rfl
theorem numK_succ (s : ByteArray) (k : Nat) (h : k < s.size) : numK s.data.toList (k + 1) = numStep (numK s.data.toList k) s[k] := by
  unfold numK
  rw [List.take_succ_eq_append_getElem (by simpa using h), List.foldl_append]
  rfl
theorem numK_full (s : Bs) (k : Nat) (h : s.length ≤ k) (h2 : k ≤ 31) : numK s 31 = numK s k := by
  unfold numK
  rw [List.take_of_length_le h, List.take_of_length_le (by omega)]
theorem numStep_len (d : Bs) (c : UInt8) : 1 ≤ (numStep d c).length ∧ (numStep d c).length ≤ d.length + 1 := by
  unfold numStep; split <;> simp

/-- no leading zero but for the only digit -/
def headOk (d : Bs) : Prop := d.length ≤ 1 ∨ d.head? ≠ some 48
theorem numStep_head (d : Bs) (c : UInt8) (h : headOk d) : headOk (numStep d c) := by
  unfold numStep
  by_cases h1 : d = [48]
  · rw [if_pos h1]; exact .inl (by simp)
  · rw [if_neg h1]
    cases d with
    | nil => exact .inl (by simp)
    | cons x t =>
      refine .inr ?_
      rw [List.cons_append, List.head?_cons]
      intro e
      rcases h with h | h
      · simp only [List.length_cons] at h
        have : t = [] := List.eq_nil_of_length_eq_zero (by omega)
        subst this
        simp only [Option.some.injEq] at e
        exact h1 (by rw [e])
      · exact h (by rw [List.head?_cons]; exact e)
theorem numStep_dig (d : Bs) (c : UInt8) (h : ∀ x ∈ d, 48 ≤ x.toNat ∧ x.toNat ≤ 57) : ∀ x ∈ numStep d c, 48 ≤ x.toNat ∧ x.toNat ≤ 57 := by
  intro x hx
  unfold numStep at hx
  rcases List.mem_append.1 hx with hx | hx
  · split at hx
    · simp at hx
    · exact h x hx
  · simp only [List.mem_singleton] at hx
    rw [hx, toNat_ofNat (by omega)]
    omega
theorem numK_inv (s : Bs) (k : Nat) : (numK s k).length ≤ k ∧ headOk (numK s k) ∧ ∀ x ∈ numK s k, 48 ≤ x.toNat ∧ x.toNat ≤ 57 := by
  have key : ∀ (l : Bs) (d : Bs), headOk d → (∀ x ∈ d, 48 ≤ x.toNat ∧ x.toNat ≤ 57) → (l.foldl numStep d).length ≤ d.length + l.length ∧ headOk (l.foldl numStep d) ∧ ∀ x ∈ l.foldl numStep d, 48 ≤ x.toNat ∧ x.toNat ≤ 57 := by
    intro l
    induction l with
    | nil => exact fun d h1 h2 => ⟨by simp, h1, h2⟩
    | cons c t ih =>
      intro d h1 h2
      have := ih (numStep d c) (numStep_head d c h1) (numStep_dig d c h2)
      rw [List.foldl_cons]
      refine ⟨?_, this.2⟩
      have h3 := (numStep_len d c).2
      rw [List.length_cons]
      omega
  have := key (s.take k) [] (.inl (by simp)) (by simp)
  unfold numK
  refine ⟨?_, this.2⟩
  have h1 := this.1
  rw [List.length_take] at h1
  simp only [List.length_nil] at h1
  omega
theorem numS_valid (s : Bs) : validS (numS s) = true := by
  obtain ⟨h1, h2, h3⟩ := numK_inv s 31
  unfold numS
  split
  · rfl
  · rename_i hne
    have hl : 1 ≤ (numK s 31).length := List.length_pos_iff.2 hne
    unfold validS
    rw [decide_eq_true hl, decide_eq_true h1]
    have h4 : (decide (1 < (numK s 31).length) && (numK s 31).head? == some 48) = false := by
      rcases h2 with h | h
      · rw [decide_eq_false (by omega)]; rfl
      · rw [beq_eq_false_iff_ne.2 h, Bool.and_false]
    rw [h4]
    have h5 : ((numK s 31).all fun c => decide (48 ≤ c.toNat) && decide (c.toNat ≤ 57)) = true := by
      rw [List.all_eq_true]
      intro x hx
      obtain ⟨a, b⟩ := h3 x hx
      rw [decide_eq_true a, decide_eq_true b]; rfl
    rw [h5]; rfl
theorem numS_len (s : Bs) : 1 ≤ (numS s).length ∧ (numS s).length ≤ 31 := by
  unfold numS
  split
  · simp
  · rename_i h; exact ⟨List.length_pos_iff.2 h, (numK_inv s 31).1⟩

end Go.Proofs.YtmklkfogddppmaaDoor

/- Layer 3 in plain Lean, more: what Decode has read after the digits p. -/
namespace Go.Proofs.YtmklkfogddppmaaDoor

/-- what the table says of a digit -/
def sgnT (d : Nat) : Int := if d < 10 then 0 else if d = 11 ∨ d = 13 then 2 else 1
/-- The text that Decode has after the digits p. -/
def txtK (n : Nat) (p : List Nat) : Bs := (List.range n).map fun i => if n - i < p.length then UInt8.ofNat (48 + p.getD (n - i) 0) else 0
theorem txtK_length (n : Nat) (p : List Nat) : (txtK n p).length = n := by simp [txtK]
theorem txtK_get (n : Nat) (p : List Nat) (i : Nat) (h : i < (txtK n p).length) : (txtK n p)[i] = if n - i < p.length then UInt8.ofNat (48 + p.getD (n - i) 0) else 0 := by simp [txtK]
theorem txtK_nil (n : Nat) : txtK n [] = List.replicate n 0 := by
  refine List.ext_getElem (by simp [txtK_length]) fun i h1 h2 => ?_
  rw [txtK_get]; simp
theorem txtK_one (n d : Nat) : txtK n [d] = List.replicate n 0 := by
  refine List.ext_getElem (by simp [txtK_length]) fun i h1 h2 => ?_
  rw [txtK_get, if_neg (by rw [txtK_length] at h1; simp; omega)]; simp
theorem txtK_step (n : Nat) (p : List Nat) (d : Nat) (_h1 : 1 ≤ p.length) (h2 : p.length ≤ n) : txtK n (p ++ [d]) = (txtK n p).set (n - p.length) (UInt8.ofNat (48 + d)) := by
  refine List.ext_getElem (by simp [txtK_length]) fun i h3 h4 => ?_
  have hi : i < n := by rw [txtK_length] at h3; exact h3
  rw [txtK_get, List.getElem_set, txtK_get, getD_snoc, List.length_append, List.length_singleton]
  by_cases hc : n - p.length = i
  · rw [if_pos hc, if_pos (show n - i < p.length + 1 by omega), if_pos (show n - i = p.length by omega)]
  · rw [if_neg hc, if_neg (show ¬ n - i = p.length by omega)]
    by_cases h5 : n - i < p.length
    · rw [if_pos h5, if_pos (by omega)]
    · rw [if_neg h5, if_neg (by omega)]
theorem txtK_at (n : Nat) (p : List Nat) (h1 : 1 ≤ p.length) (h2 : p.length ≤ n) : ∃ x, (txtK n p)[n - p.length]? = some x := by
  rw [List.getElem?_eq_getElem (by rw [txtK_length]; omega)]; exact ⟨_, rfl⟩
theorem txtK_full (n : Nat) (p : List Nat) (h : p.length = n + 1) : txtK n p = p.tail.reverse.map fun d => UInt8.ofNat (48 + d) := by
  cases p with
  | nil => simp at h
  | cons a q =>
    simp only [List.length_cons] at h
    refine List.ext_getElem (by simp [txtK_length]; omega) fun i h1 h2 => ?_
    have hi : i < n := by rw [txtK_length] at h1; exact h1
    rw [txtK_get, if_pos (by simp; omega)]
    simp only [List.tail_cons, List.getElem_map, List.getElem_reverse]
    rw [show n - i = (n - i - 1) + 1 from by omega, List.getD_eq_getElem?_getD, List.getElem?_cons_succ, List.getElem?_eq_getElem (by omega)]
    simp only [Option.getD_some]
    congr 3
    omega

theorem decS_def (b : Bs) : decS b = if okSize b.length && decide (10 ≤ (nibr b).getD 0 0) && (nibr b).tail.all (· ≤ 9) then (((nibr b).getD 0 0 == 11 || (nibr b).getD 0 0 == 13, strip ((nibr b).tail.reverse.map fun d => UInt8.ofNat (48 + d))), true) else ((false, []), false) := rfl
theorem decS_good (b : Bs) (h1 : okSize b.length = true) (h2 : 10 ≤ (nibr b).getD 0 0) (h3 : ∀ q ∈ (nibr b).tail, q ≤ 9) :
    decS b = (((nibr b).getD 0 0 == 11 || (nibr b).getD 0 0 == 13, strip (txtK (2 * b.length - 1) (nibr b))), true) := by
  have hl : (nibr b).length = (2 * b.length - 1) + 1 := by
    rw [nibr_length]; obtain ⟨m, e, e1, e2⟩ : ∃ m : Nat, (b.length : Int) = m ∧ 1 ≤ m ∧ m ≤ 16 := by
      unfold okSize at h1; simp only [Bool.and_eq_true, decide_eq_true_eq] at h1; exact ⟨b.length, rfl, by omega, by omega⟩
    omega
  rw [txtK_full _ _ hl]
  rw [decS_def]
  rw [h1, decide_eq_true h2, show (nibr b).tail.all (· ≤ 9) = true from List.all_eq_true.2 fun q hq => decide_eq_true (h3 q hq)]
  rfl
theorem decS_badSize (b : Bs) (h : ¬ okSize b.length = true) : decS b = ((false, []), false) := by rw [decS_def]; simp [h]
theorem decS_badSign (b : Bs) (p : List Nat) (hp : p <+: nibr b) (hl : 1 ≤ p.length) (h : p.getD 0 0 < 10) : decS b = ((false, []), false) := by
  rw [decS_def]
  rw [getD_prefix hp 0 (by omega), decide_eq_false (show ¬ 10 ≤ p.getD 0 0 by omega)]; simp
theorem decS_badDigit (b : Bs) (p : List Nat) (x : Nat) (hp : p ++ [x] <+: nibr b) (hl : 1 ≤ p.length) (h : 9 < x) : decS b = ((false, []), false) := by
  have : (nibr b).tail.all (· ≤ 9) = false := by
    rw [List.all_eq_false]
    obtain ⟨t, ht⟩ := hp
    refine ⟨x, ?_, by simp; omega⟩
    rw [← ht]
    cases p with
    | nil => simp at hl
    | cons a q => simp
  rw [decS_def]
  rw [this]; simp

/-- one more leading zero away -/
theorem strip_drop (t : Bs) (a : Nat) (h1 : a + 1 < t.length) (h2 : t[a] = 48) (h : strip (t.drop a) = strip t) : strip (t.drop (a + 1)) = strip t := by
  rw [← h, List.drop_eq_getElem_cons (show a < t.length by omega), List.drop_eq_getElem_cons h1]
  simp only [strip, h2, if_true]
theorem strip_stop (t : Bs) (a : Nat) (h0 : a < t.length) (h2 : a + 1 = t.length ∨ t[a] ≠ 48) (h : strip (t.drop a) = strip t) : t.drop a = strip t := by
  rw [← h]
  by_cases h1 : a + 1 = t.length
  · rw [List.drop_eq_getElem_cons h0, List.drop_of_length_le (by omega)]; rfl
  · have h3 := h2.resolve_left h1
    rw [List.drop_eq_getElem_cons h0, List.drop_eq_getElem_cons (show a + 1 < t.length by omega)]
    simp only [strip, h3, if_false]
theorem txtK_num (n : Nat) (p : List Nat) (hp : ∀ q ∈ p.tail, q ≤ 9) (hl : p.length = n + 1) (i : Nat) (h : i < n) : bN (txtK n p) i = 48 + p.getD (n - i) 0 ∧ p.getD (n - i) 0 ≤ 9 := by
  have hq : p.getD (n - i) 0 ≤ 9 := by
    cases p with
    | nil => simp at hl
    | cons a q =>
      rw [show n - i = (n - i - 1) + 1 from by omega, List.getD_eq_getElem?_getD, List.getElem?_cons_succ]
      simp only [List.length_cons] at hl
      rw [List.getElem?_eq_getElem (by omega)]
      exact hp _ (List.getElem_mem _)
  refine ⟨?_, hq⟩
  rw [bN_get _ _ (by rw [txtK_length]; exact h), txtK_get, if_pos (by omega), toNat_ofNat (by omega)]

end Go.Proofs.YtmklkfogddppmaaDoor

/- Layer 3 in plain Lean, more: what a field decodes to. -/
namespace Go.Proofs.YtmklkfogddppmaaDoor

theorem nibr_get (b : Bs) (i : Nat) (h : i < b.length) : (nibr b).getD (2 * i) 0 = bN b (b.length - 1 - i) % 16 ∧ (nibr b).getD (2 * i + 1) 0 = bN b (b.length - 1 - i) / 16 := by
  have key : ∀ (l : Bs) (i : Nat), i < l.length → (l.flatMap fun x : UInt8 => [x.toNat % 16, x.toNat / 16]).getD (2 * i) 0 = bN l i % 16 ∧ (l.flatMap fun x : UInt8 => [x.toNat % 16, x.toNat / 16]).getD (2 * i + 1) 0 = bN l i / 16 := by
    intro l
    induction l with
    | nil => intro i h; simp at h
    | cons a t ih =>
      intro i h
      cases i with
      | zero => exact ⟨rfl, rfl⟩
      | succ k =>
        have := ih k (by simpa using h)
        rw [show 2 * (k + 1) = 2 * k + 1 + 1 from by omega]
        simp only [List.flatMap_cons, List.cons_append, List.nil_append, List.getD_cons_succ]
        exact this
  have := key b.reverse i (by simpa using h)
  have hb : bN b.reverse i = bN b (b.length - 1 - i) := by
    rw [bN_get _ _ (by simpa using h), bN_get _ _ (by omega), List.getElem_reverse]
  rw [hb] at this
  exact this
theorem nibr_lt16 (b : Bs) (i : Nat) : (nibr b).getD i 0 < 16 := by
  rw [List.getD_eq_getElem?_getD]
  cases h : (nibr b)[i]? with
  | none => simp
  | some x =>
    simp only [Option.getD_some]
    have := List.mem_of_getElem? h
    unfold nibr at this
    obtain ⟨y, _, hy⟩ := List.mem_flatMap.1 this
    have := UInt8.toNat_lt y
    simp at hy
    omega

theorem bN_fld (k : Nat) (p : List Nat) (hp : ∀ i, p.getD i 0 < 16) (j : Nat) (h : j < k) : bN (fld k p) j = 16 * p.getD (2 * k - 1 - 2 * j) 0 + p.getD (2 * k - 2 - 2 * j) 0 := by
  rw [bN_get _ _ (by rw [fld_length]; exact h), fld_get]
  have h1 := hp (2 * k - 1 - 2 * j)
  have h2 := hp (2 * k - 2 - 2 * j)
  exact toNat_ofNat (by omega)
theorem nibr_fld (k : Nat) (p : List Nat) (hp : ∀ i, p.getD i 0 < 16) (i : Nat) (h : i < 2 * k) : (nibr (fld k p)).getD i 0 = p.getD i 0 := by
  have hj : i / 2 < (fld k p).length := by rw [fld_length]; omega
  obtain ⟨n1, n2⟩ := nibr_get (fld k p) (i / 2) hj
  rw [fld_length] at n1 n2 hj
  rw [bN_fld k p hp _ (by omega), show 2 * k - 1 - 2 * (k - 1 - i / 2) = 2 * (i / 2) + 1 from by omega, show 2 * k - 2 - 2 * (k - 1 - i / 2) = 2 * (i / 2) from by omega] at n1 n2
  have h1 := hp (2 * (i / 2))
  have h2 := hp (2 * (i / 2) + 1)
  rcases Nat.mod_two_eq_zero_or_one i with h3 | h3
  · rw [show 2 * (i / 2) = i from by omega] at n1 h1
    rw [n1]; omega
  · rw [show 2 * (i / 2) + 1 = i from by omega] at n2 h2
    rw [n2]; omega

theorem valsR_get (d : Bs) (j : Nat) : (valsR d).getD j 0 = if j < d.length then bN d (d.length - 1 - j) - 48 else 0 := by
  rw [List.getD_eq_getElem?_getD]
  by_cases h : j < d.length
  · rw [if_pos h, List.getElem?_eq_getElem (by simp [valsR]; exact h), Option.getD_some, bN_get _ _ (by omega)]
    simp [valsR]
  · rw [if_neg h, List.getElem?_eq_none (by simp [valsR]; omega)]; rfl

theorem strip_zeros (d : Bs) (h1 : 1 ≤ d.length) (h2 : headOk d) : ∀ m, strip (List.replicate m 48 ++ d) = d
  | 0 => by
    cases d with
    | nil => simp at h1
    | cons a t =>
      cases t with
      | nil => rfl
      | cons b l =>
        have : a ≠ 48 := by
          rcases h2 with h | h
          · simp at h
          · simpa using h
        simp [strip, this]
  | m + 1 => by
    have ih := strip_zeros d h1 h2 m
    rw [List.replicate_succ, List.cons_append]
    cases hh : List.replicate m (48 : UInt8) ++ d with
    | nil =>
      rw [hh] at ih
      have := congrArg List.length hh
      rw [List.length_append, List.length_nil] at this
      omega
    | cons b l => rw [hh] at ih; simp only [strip, if_true]; exact ih

theorem valid_parts (d : Bs) (h : validS d = true) : 1 ≤ d.length ∧ d.length ≤ 31 ∧ headOk d ∧ ∀ i, i < d.length → 48 ≤ bN d i ∧ bN d i ≤ 57 := by
  unfold validS at h
  simp only [Bool.and_eq_true, decide_eq_true_eq, List.all_eq_true] at h
  obtain ⟨⟨⟨a, b⟩, c⟩, e⟩ := h
  refine ⟨a, b, ?_, fun i hi => ?_⟩
  · unfold headOk
    by_cases h1 : 1 < d.length
    · refine .inr fun h2 => ?_
      rw [decide_eq_true h1, h2] at c
      simp at c
    · exact .inl (by omega)
  · rw [bN_get _ _ hi]
    exact e _ (List.getElem_mem hi)

theorem decS_fld (k : Nat) (neg : Bool) (d : Bs) (h1 : 1 ≤ k) (h2 : k ≤ 16) (hv : validS d = true) (hl : d.length ≤ 2 * k - 1) : decS (fld k (sgn neg :: valsR d)) = ((neg, d), true) := by
  obtain ⟨v1, v2, v3, v4⟩ := valid_parts d hv
  have hs : sgn neg = 12 ∨ sgn neg = 13 := by cases neg <;> simp [sgn]
  have hg : ∀ j, (sgn neg :: valsR d).getD (j + 1) 0 = if j < d.length then bN d (d.length - 1 - j) - 48 else 0 := fun j => by rw [List.getD_cons_succ, valsR_get]
  have hlt : ∀ j, (sgn neg :: valsR d).getD (j + 1) 0 ≤ 9 := by
    intro j
    rw [hg]
    split
    · have := v4 (d.length - 1 - j) (by omega); omega
    · omega
  have hp : ∀ i, (sgn neg :: valsR d).getD i 0 < 16 := by
    intro i
    cases i with
    | zero => rw [List.getD_cons_zero]; omega
    | succ j => have := hlt j; omega
  have hn := nibr_fld k _ hp
  have h0 := hn 0 (by omega)
  rw [List.getD_cons_zero] at h0
  have hnl : (nibr (fld k (sgn neg :: valsR d))).length = 2 * k := by rw [nibr_length, fld_length]
  have ht : ∀ q ∈ (nibr (fld k (sgn neg :: valsR d))).tail, q ≤ 9 := by
    intro q hq
    obtain ⟨i, hi, rfl⟩ := List.getElem_of_mem hq
    rw [List.length_tail, hnl] at hi
    have h3 := hn (i + 1) (by omega)
    rw [List.getD_eq_getElem?_getD, List.getElem?_eq_getElem (by omega), Option.getD_some] at h3
    rw [List.getElem_tail, h3]
    exact hlt i
  rw [decS_good _ (by rw [fld_length]; unfold okSize; simp; omega) (by rw [h0]; omega) ht, h0, fld_length]
  have hb : (sgn neg == 11 || sgn neg == 13) = neg := by cases neg <;> rfl
  rw [hb]
  have htx : txtK (2 * k - 1) (nibr (fld k (sgn neg :: valsR d))) = List.replicate (2 * k - 1 - d.length) 48 ++ d := by
    refine List.ext_getElem (by rw [txtK_length]; simp; omega) fun i h3 h4 => ?_
    rw [txtK_length] at h3
    rw [txtK_get, if_pos (by omega), hn _ (by omega), show 2 * k - 1 - i = (2 * k - 2 - i) + 1 from by omega, hg, List.getElem_append]
    by_cases hc : i < 2 * k - 1 - d.length
    · rw [if_neg (by omega), dif_pos (by simpa using hc), List.getElem_replicate]; rfl
    · have hi : i - (2 * k - 1 - d.length) < d.length := by omega
      rw [if_pos (by omega), dif_neg (by simpa using hc), show d.length - 1 - (2 * k - 2 - i) = i - (2 * k - 1 - d.length) from by omega]
      have h5 := v4 _ hi
      refine UInt8.toNat_inj.1 ?_
      rw [toNat_ofNat (by omega)]
      have h6 : (List.replicate (2 * k - 1 - d.length) (48 : UInt8)).length = 2 * k - 1 - d.length := by simp
      simp only [h6]
      rw [← bN_get d _ hi]
      omega
  rw [htx, strip_zeros d v1 v3]

/-- the field depends on the digits alone -/
theorem fld_congr (k : Nat) (p q : List Nat) (h : ∀ i, i < 2 * k → p.getD i 0 = q.getD i 0) : fld k p = fld k q := by
  refine List.ext_getElem (by simp [fld]) fun i h1 h2 => ?_
  rw [fld_length] at h1
  rw [fld_get, fld_get, h _ (by omega), h _ (by omega)]

/-- a zoned field, packed -/
theorem pack_zoned (neg : Bool) (d : Bs) (n k : Nat) (hv : validS d = true) (hl : d.length ≤ n) (hn : 1 ≤ n) (hn2 : n ≤ 16) (hk : 1 ≤ k) (hk2 : k ≤ 16) : packS (zonF neg n (valsR d)) k = fld k (sgn neg :: valsR d) := by
  obtain ⟨v1, v2, v3, v4⟩ := valid_parts d hv
  have hzl : (zonF neg n (valsR d)).length = n := by simp [zonF]
  have hg : ∀ i (h : i < (zonF neg n (valsR d)).length), (zonF neg n (valsR d))[i] = UInt8.ofNat (16 * (if i = n - 1 then sgn neg else 15) + (valsR d).getD (n - 1 - i) 0) := fun i h => by simp [zonF]
  have hlt : ∀ j, (valsR d).getD j 0 ≤ 9 := by
    intro j
    rw [valsR_get]
    split
    · have := v4 (d.length - 1 - j) (by omega); omega
    · omega
  have hs : sgn neg = 12 ∨ sgn neg = 13 := by cases neg <;> simp [sgn]
  unfold packS
  rw [hzl, show okSize n = true from by unfold okSize; simp; omega, show okSize k = true from by unfold okSize; simp; omega]
  simp only [Bool.and_self, if_true, Int.toNat_natCast]
  refine fld_congr k _ _ fun j hj => ?_
  cases j with
  | zero =>
    rw [List.getD_cons_zero, List.getD_cons_zero, List.getLast?_eq_getElem?, hzl, List.getElem?_eq_getElem (by omega), Option.getD_some, hg, if_pos rfl]
    have := hlt (n - 1 - (n - 1))
    rw [toNat_ofNat (by omega)]
    omega
  | succ i =>
    rw [List.getD_cons_succ, List.getD_cons_succ]
    by_cases hi : i < n
    · rw [List.getD_eq_getElem?_getD, List.getElem?_eq_getElem (by simp [hzl]; exact hi), Option.getD_some, List.getElem_map, List.getElem_reverse, hg]
      rw [show n - 1 - ((zonF neg n (valsR d)).length - 1 - i) = i from by rw [hzl]; omega]
      have := hlt i
      rw [toNat_ofNat (by split <;> omega)]
      split <;> omega
    · rw [List.getD_eq_getElem?_getD, List.getElem?_eq_none (by simp [hzl]; omega), valsR_get, if_neg (by omega)]; rfl

end Go.Proofs.YtmklkfogddppmaaDoor

/- Layer 3 in plain Lean, more: a valid field, decoded and encoded again. -/
namespace Go.Proofs.YtmklkfogddppmaaDoor

/-- the field of any valid number decodes to some number -/
theorem decS_fld_ok (k : Nat) (neg : Bool) (d : Bs) (h1 : 1 ≤ k) (h2 : k ≤ 16) (hv : validS d = true) : ∃ n, decS (fld k (sgn neg :: valsR d)) = (n, true) := by
  obtain ⟨v1, v2, v3, v4⟩ := valid_parts d hv
  have hs : sgn neg = 12 ∨ sgn neg = 13 := by cases neg <;> simp [sgn]
  have hlt : ∀ j, (sgn neg :: valsR d).getD (j + 1) 0 ≤ 9 := by
    intro j
    rw [List.getD_cons_succ, valsR_get]
    split
    · have := v4 (d.length - 1 - j) (by omega); omega
    · omega
  have hp : ∀ i, (sgn neg :: valsR d).getD i 0 < 16 := by
    intro i
    cases i with
    | zero => rw [List.getD_cons_zero]; omega
    | succ j => have := hlt j; omega
  have hn := nibr_fld k _ hp
  have h0 := hn 0 (by omega)
  rw [List.getD_cons_zero] at h0
  have hnl : (nibr (fld k (sgn neg :: valsR d))).length = 2 * k := by rw [nibr_length, fld_length]
  have ht : ∀ q ∈ (nibr (fld k (sgn neg :: valsR d))).tail, q ≤ 9 := by
    intro q hq
    obtain ⟨i, hi, rfl⟩ := List.getElem_of_mem hq
    rw [List.length_tail, hnl] at hi
    have h3 := hn (i + 1) (by omega)
    rw [List.getD_eq_getElem?_getD, List.getElem?_eq_getElem (by omega), Option.getD_some] at h3
    rw [List.getElem_tail, h3]
    exact hlt i
  exact ⟨_, decS_good _ (by rw [fld_length]; unfold okSize; simp; omega) (by rw [h0]; omega) ht⟩

theorem strip_length : ∀ t : Bs, (strip t).length ≤ t.length ∧ (t ≠ [] → 1 ≤ (strip t).length)
  | [] => ⟨Nat.le_refl _, fun h => absurd rfl h⟩
  | [c] => ⟨Nat.le_refl _, fun _ => Nat.le_refl _⟩
  | c :: d :: l => by
    have ih := strip_length (d :: l)
    have i2 := ih.2 (by simp)
    simp only [strip]
    split
    · exact ⟨Nat.le_trans ih.1 (by simp), fun _ => i2⟩
    · exact ⟨Nat.le_refl _, fun _ => by simp⟩
theorem strip_head : ∀ t : Bs, headOk (strip t)
  | [] => .inl (by simp [strip])
  | [c] => .inl (by simp [strip])
  | c :: d :: l => by
    have ih := strip_head (d :: l)
    simp only [strip]
    split
    · exact ih
    · rename_i h; exact .inr (by simpa using h)
theorem strip_mem : ∀ (t : Bs) (x : UInt8), x ∈ strip t → x ∈ t
  | [], _, h => h
  | [c], _, h => h
  | c :: d :: l, x, h => by
    simp only [strip] at h
    split at h
    · exact List.mem_cons_of_mem _ (strip_mem (d :: l) x h)
    · exact h
theorem strip_vals : ∀ (t : Bs) (j : Nat), (valsR (strip t)).getD j 0 = (valsR t).getD j 0
  | [], _ => rfl
  | [c], _ => rfl
  | c :: d :: l, j => by
    have ih := strip_vals (d :: l) j
    simp only [strip]
    split
    · rename_i h
      rw [ih, h]
      have e : valsR (48 :: d :: l) = valsR (d :: l) ++ [0] := by simp [valsR]
      rw [e, List.getD_eq_getElem?_getD, List.getD_eq_getElem?_getD]
      by_cases hj : j < (valsR (d :: l)).length
      · rw [List.getElem?_append_left hj]
      · rw [List.getElem?_eq_none (by omega), List.getElem?_append_right (by omega)]
        cases hk : j - (valsR (d :: l)).length with
        | zero => rfl
        | succ m => rfl
    · rfl

theorem decS_cases (b : Bs) : decS b = ((false, []), false) ∨ okSize b.length = true ∧ 10 ≤ (nibr b).getD 0 0 ∧ (∀ q ∈ (nibr b).tail, q ≤ 9) ∧
    decS b = (((nibr b).getD 0 0 == 11 || (nibr b).getD 0 0 == 13, strip ((nibr b).tail.reverse.map fun d => UInt8.ofNat (48 + d))), true) := by
  rw [decS_def]
  by_cases h : (okSize b.length && decide (10 ≤ (nibr b).getD 0 0) && (nibr b).tail.all (· ≤ 9)) = true
  · rw [if_pos h]
    simp only [Bool.and_eq_true, decide_eq_true_eq, List.all_eq_true] at h
    exact .inr ⟨h.1.1, h.1.2, h.2, rfl⟩
  · rw [if_neg h]; exact .inl rfl

/-- What a valid field's number is, and the field that it is encoded as again. -/
theorem back (b : Bs) (L : Nat) (hL : b.length = L) (ng : Bool) (dg : Bs) (h : decS b = ((ng, dg), true)) :
    1 ≤ L ∧ L ≤ 16 ∧ dg.length ≤ 31 ∧ encS ng dg L = (fld L (sgn ng :: valsR dg), false) ∧
    (∀ i, i + 1 < L → bN (fld L (sgn ng :: valsR dg)) i = bN b i) ∧ bN (fld L (sgn ng :: valsR dg)) (L - 1) / 16 = bN b (L - 1) / 16 ∧ bN (fld L (sgn ng :: valsR dg)) (L - 1) % 16 = sgn ng := by
  rcases decS_cases b with e | ⟨h1, h2, h3, e⟩
  · rw [e] at h; cases h
  rw [e] at h
  obtain ⟨m, em, hm1, hm2⟩ : ∃ m : Nat, (b.length : Int) = m ∧ 1 ≤ m ∧ m ≤ 16 := by
    unfold okSize at h1; simp only [Bool.and_eq_true, decide_eq_true_eq] at h1; exact ⟨b.length, rfl, by omega, by omega⟩
  have hm : m = L := by omega
  subst hm
  have hdg : strip ((nibr b).tail.reverse.map fun d => UInt8.ofNat (48 + d)) = dg := congrArg (fun x : (Bool × Bs) × Bool => x.1.2) h
  obtain ⟨t, ht⟩ : ∃ t, t = (nibr b).tail.reverse.map fun d => UInt8.ofNat (48 + d) := ⟨_, rfl⟩
  rw [← ht] at hdg
  have hnl : (nibr b).length = 2 * m := by rw [nibr_length, hL]
  have htl : t.length = 2 * m - 1 := by rw [ht]; simp [hnl]
  have hd : dg.length ≤ 2 * m - 1 := by rw [← hdg, ← htl]; exact (strip_length t).1
  have hmem : ∀ x ∈ dg, 48 ≤ x.toNat ∧ x.toNat ≤ 57 := by
    intro x hx
    rw [← hdg] at hx
    have := strip_mem t x hx
    rw [ht] at this
    obtain ⟨q, hq, rfl⟩ := List.mem_map.1 this
    have := h3 q (by simpa using hq)
    rw [toNat_ofNat (by omega)]; omega
  have hval : ∀ j, j < 2 * m - 1 → (valsR dg).getD j 0 = (nibr b).getD (j + 1) 0 := by
    intro j hj
    rw [← hdg, strip_vals, valsR_get, if_pos (by omega), htl]
    have hi : 2 * m - 1 - 1 - j < t.length := by omega
    rw [bN_get t _ hi]
    have ht2 : t[2 * m - 1 - 1 - j] = UInt8.ofNat (48 + (nibr b).getD (j + 1) 0) := by
      simp only [ht, List.getElem_map, List.getElem_reverse, List.getElem_tail, List.length_tail, hnl]
      rw [List.getD_eq_getElem?_getD, List.getElem?_eq_getElem (show j + 1 < (nibr b).length by omega), Option.getD_some]
      congr 3
      omega
    have h9 : (nibr b).getD (j + 1) 0 ≤ 9 := by
      rw [List.getD_eq_getElem?_getD, List.getElem?_eq_getElem (show j + 1 < (nibr b).length by omega), Option.getD_some]
      have := h3 ((nibr b).tail[j]'(by simp [hnl]; omega)) (List.getElem_mem _)
      rw [List.getElem_tail] at this
      exact this
    rw [ht2, toNat_ofNat (by omega)]
    omega
  have hvd : validS dg = true := by
    have hl1 : 1 ≤ dg.length := by rw [← hdg]; exact (strip_length t).2 (by intro e0; rw [e0] at htl; simp at htl; omega)
    have hh : headOk dg := by rw [← hdg]; exact strip_head t
    unfold validS
    rw [decide_eq_true hl1, decide_eq_true (show dg.length ≤ 31 by omega)]
    have h4 : (decide (1 < dg.length) && dg.head? == some 48) = false := by
      rcases hh with h | h
      · rw [decide_eq_false (by omega)]; rfl
      · rw [beq_eq_false_iff_ne.2 h, Bool.and_false]
    have h5 : (dg.all fun c => decide (48 ≤ c.toNat) && decide (c.toNat ≤ 57)) = true := by
      rw [List.all_eq_true]
      intro x hx
      obtain ⟨a, b⟩ := hmem x hx
      rw [decide_eq_true a, decide_eq_true b]; rfl
    rw [h4, h5]; rfl
  have hs : sgn ng = 12 ∨ sgn ng = 13 := by cases ng <;> simp [sgn]
  have hnb : ∀ i, (nibr b).getD i 0 < 16 := nibr_lt16 b
  have hp : ∀ i, i < 2 * m → (sgn ng :: valsR dg).getD i 0 < 16 := by
    intro i hi
    cases i with
    | zero => rw [List.getD_cons_zero]; omega
    | succ j => rw [List.getD_cons_succ, hval j (by omega)]; exact hnb _
  have hp2 : ∀ i, (sgn ng :: valsR dg).getD i 0 < 16 := by
    intro i
    by_cases hi : i < 2 * m
    · exact hp i hi
    · rw [List.getD_eq_getElem?_getD, List.getElem?_eq_none (by simp [valsR]; omega)]; simp
  have hf : ∀ i, i < m → bN (fld m (sgn ng :: valsR dg)) i = 16 * (sgn ng :: valsR dg).getD (2 * m - 1 - 2 * i) 0 + (sgn ng :: valsR dg).getD (2 * m - 2 - 2 * i) 0 := fun i hi => bN_fld m _ hp2 i hi
  have hb : ∀ i, i < m → bN b i % 16 = (nibr b).getD (2 * (m - 1 - i)) 0 ∧ bN b i / 16 = (nibr b).getD (2 * (m - 1 - i) + 1) 0 := by
    intro i hi
    obtain ⟨n1, n2⟩ := nibr_get b (m - 1 - i) (by omega)
    rw [hL, show m - 1 - (m - 1 - i) = i from by omega] at n1 n2
    exact ⟨n1.symm, n2.symm⟩
  refine ⟨hm1, hm2, by omega, ?_, ?_, ?_, ?_⟩
  · unfold encS
    rw [hvd, show okSize (m : Int) = true from by unfold okSize; simp; omega]
    simp only [Bool.and_self, if_true, Int.toNat_natCast]
    rw [decide_eq_false (by omega)]
  · intro i hi
    obtain ⟨n1, n2⟩ := hb i (by omega)
    rw [hf i (by omega), show 2 * m - 1 - 2 * i = (2 * (m - 1 - i)) + 1 from by omega, show 2 * m - 2 - 2 * i = (2 * (m - 1 - i) - 1) + 1 from by omega, List.getD_cons_succ, List.getD_cons_succ, hval _ (by omega), hval _ (by omega),
      show 2 * (m - 1 - i) - 1 + 1 = 2 * (m - 1 - i) from by omega, ← n1, ← n2]
    omega
  · obtain ⟨n1, n2⟩ := hb (m - 1) (by omega)
    rw [show m - 1 - (m - 1) = 0 from by omega, show 2 * 0 + 1 = 0 + 1 from rfl] at n2
    rw [hf (m - 1) (by omega), n2, show 2 * m - 1 - 2 * (m - 1) = 0 + 1 from by omega, show 2 * m - 2 - 2 * (m - 1) = 0 from by omega, List.getD_cons_succ, List.getD_cons_zero, hval 0 (by omega)]
    have := hnb (0 + 1)
    omega
  · rw [hf (m - 1) (by omega), show 2 * m - 1 - 2 * (m - 1) = 0 + 1 from by omega, show 2 * m - 2 - 2 * (m - 1) = 0 from by omega, List.getD_cons_succ, List.getD_cons_zero, hval 0 (by omega)]
    omega

end Go.Proofs.YtmklkfogddppmaaDoor

/- Layer 4 in plain Lean: numbers as lists of digits from the last one on; no program in sight. -/
namespace Go.Proofs.YtmklkfogddppmaaDoor

/-- the number of a list of digits, the last digit first -/
def val : List Nat → Nat
  | [] => 0
  | d :: l => d + 10 * val l

/-- the digits of v, the last one first, no zeros at the end -/
def digs (v : Nat) : List Nat := if h : v = 0 then [] else v % 10 :: digs (v / 10)
termination_by v
decreasing_by omega

theorem digs_zero : digs 0 = [] := by rw [digs]; simp
theorem digs_pos {v : Nat} (h : v ≠ 0) : digs v = v % 10 :: digs (v / 10) := by rw [digs]; simp [h]
theorem digs_eq_nil {v : Nat} (h : digs v = []) : v = 0 := by
  by_cases h0 : v = 0
  · exact h0
  · rw [digs_pos h0] at h; cases h

theorem val_digs (v : Nat) : val (digs v) = v := by
  induction v using Nat.strongRecOn with
  | ind v ih =>
    by_cases h : v = 0
    · subst h; rw [digs_zero]; rfl
    · rw [digs_pos h, val, ih (v / 10) (by omega)]; omega
theorem digs_lt (v : Nat) : ∀ q ∈ digs v, q < 10 := by
  induction v using Nat.strongRecOn with
  | ind v ih =>
    by_cases h : v = 0
    · subst h; rw [digs_zero]; simp
    · rw [digs_pos h]
      intro q hq
      rcases List.mem_cons.1 hq with rfl | hq
      · omega
      · exact ih (v / 10) (by omega) q hq
theorem digs_getD (v : Nat) : ∀ i, (digs v).getD i 0 = v / 10 ^ i % 10 := by
  induction v using Nat.strongRecOn with
  | ind v ih =>
    intro i
    by_cases h : v = 0
    · subst h; rw [digs_zero]; simp
    · rw [digs_pos h]
      cases i with
      | zero => simp
      | succ i =>
        rw [List.getD_cons_succ, ih (v / 10) (by omega) i, Nat.div_div_eq_div_mul, Nat.pow_succ, Nat.mul_comm]
theorem digs_length (v : Nat) : ∀ k, (digs v).length ≤ k ↔ v < 10 ^ k := by
  induction v using Nat.strongRecOn with
  | ind v ih =>
    intro k
    by_cases h : v = 0
    · subst h; rw [digs_zero]; simp; exact Nat.pow_pos (by decide)
    · rw [digs_pos h, List.length_cons]
      cases k with
      | zero => simp; omega
      | succ k =>
        rw [Nat.add_le_add_iff_right, ih (v / 10) (by omega) k, Nat.pow_succ]
        omega

theorem val_lt (l : List Nat) (h : ∀ q ∈ l, q < 10) : val l < 10 ^ l.length := by
  induction l with
  | nil => simp [val]
  | cons d l ih =>
    have h1 := ih fun q hq => h q (List.mem_cons_of_mem _ hq)
    have h2 := h d List.mem_cons_self
    rw [val, List.length_cons, Nat.pow_succ]
    omega
theorem val_append (l m : List Nat) : val (l ++ m) = val l + 10 ^ l.length * val m := by
  induction l with
  | nil => simp [val]
  | cons d l ih =>
    rw [List.cons_append, val, val, ih, List.length_cons, Nat.pow_succ, Nat.mul_add, Nat.mul_comm (10 ^ l.length) 10, Nat.mul_assoc, ← Nat.add_assoc]
theorem val_snoc (l : List Nat) (d : Nat) : val (l ++ [d]) = val l + 10 ^ l.length * d := by rw [val_append]; simp [val]

/-- a list of digits that ends in no zero is that of its number -/
theorem digs_val (l : List Nat) (h : ∀ q ∈ l, q < 10) (hl : l = [] ∨ l.getLast?.getD 1 ≠ 0) : digs (val l) = l := by
  induction l with
  | nil => exact digs_zero
  | cons d l ih =>
    have h1 := h d List.mem_cons_self
    have h2 : l = [] ∨ l.getLast?.getD 1 ≠ 0 := by
      cases l with
      | nil => exact .inl rfl
      | cons e l => exact .inr (by rcases hl with hl | hl; cases hl; simpa [List.getLast?_cons_cons] using hl)
    have h3 := ih (fun q hq => h q (List.mem_cons_of_mem _ hq)) h2
    rw [val]
    have h4 : d + 10 * val l ≠ 0 := by
      intro e
      have e1 : val l = 0 := by omega
      rw [e1, digs_zero] at h3
      subst h3
      rcases hl with hl | hl
      · cases hl
      · simp at hl; omega
    rw [digs_pos h4, show (d + 10 * val l) % 10 = d from by omega, show (d + 10 * val l) / 10 = val l from by omega, h3]

theorem val_zeros (l : List Nat) (h : ∀ i, l.getD i 0 = 0) : val l = 0 := by
  induction l with
  | nil => rfl
  | cons d l ih =>
    have h0 := h 0
    have := ih fun i => by have := h (i + 1); rwa [List.getD_cons_succ] at this
    rw [List.getD_cons_zero] at h0
    rw [val]; omega
/-- trimming -/
theorem val_take (l : List Nat) (n : Nat) (h : ∀ i, n ≤ i → l.getD i 0 = 0) : val (l.take n) = val l := by
  have e : l = l.take n ++ l.drop n := (List.take_append_drop n l).symm
  have hd : val (l.drop n) = 0 := val_zeros _ fun i => by
    rw [List.getD_eq_getElem?_getD, List.getElem?_drop, ← List.getD_eq_getElem?_getD]; exact h _ (by omega)
  conv => rhs; rw [e]
  rw [val_append, hd]; simp
theorem trim_digs (l : List Nat) (n : Nat) (hn : n ≤ l.length) (h10 : ∀ q ∈ l, q < 10) (h : ∀ i, n ≤ i → l.getD i 0 = 0) (hl : n = 0 ∨ l.getD (n - 1) 0 ≠ 0) : l.take n = digs (val l) := by
  rw [← val_take l n h]
  refine (digs_val _ (fun q hq => h10 q (List.mem_of_mem_take hq)) ?_).symm
  rcases hl with rfl | hl
  · exact .inl (by simp)
  · by_cases h0 : n = 0
    · subst h0; exact .inl (by simp)
    · right
      rw [List.getLast?_eq_getElem?, List.length_take, Nat.min_eq_left hn, List.getElem?_take, if_pos (by omega), List.getElem?_eq_getElem (by omega)]
      rw [List.getD_eq_getElem?_getD, List.getElem?_eq_getElem (by omega)] at hl
      simpa using hl

theorem val_drop_succ (l : List Nat) (i : Nat) : val (l.drop i) = l.getD i 0 + 10 * val (l.drop (i + 1)) := by
  rcases Nat.lt_or_ge i l.length with h | h
  · rw [List.drop_eq_getElem_cons h, val, List.getD_eq_getElem?_getD, List.getElem?_eq_getElem h]; rfl
  · rw [List.drop_of_length_le h, List.drop_of_length_le (by omega), List.getD_eq_getElem?_getD, List.getElem?_eq_none h]; rfl

/-- a digit more of a sum -/
theorem plus_step (P q : Nat) (A B c a b A' B' n : Nat) (hA : A = a + 10 * A') (hB : B = b + 10 * B') (hn : n = a + b + c) : q + P * (n % 10) + P * 10 * (n / 10 + A' + B') = q + P * (c + A + B) := by
  subst hA hB hn
  have h := Nat.div_add_mod (a + b + c) 10
  have e1 : P * 10 * ((a + b + c) / 10 + A' + B') = P * (10 * ((a + b + c) / 10) + 10 * A' + 10 * B') := by
    rw [Nat.mul_assoc]; congr 1; rw [Nat.mul_add, Nat.mul_add]
  rw [e1, Nat.add_assoc, ← Nat.mul_add]
  congr 2
  omega

end Go.Proofs.YtmklkfogddppmaaDoor

import Derived.Test.YtnaljgmcpagbbaaGreatDoorJE
import Derived.Test.YtnaljgmcpagbbaaGreatDoorJW
import Derived.Test.YtnaljgmcpagbbaaGreatDoorKC
import Derived.Test.YtnaljgmcpagbbaaGreatDoorKF

/- Layer 34 in plain Lean: what is written is read again, the words; no program in sight. -/
namespace Go.Proofs.YtnaljgmcpagbbaaGreatDoor
set_option linter.unusedVariables false
set_option linter.unusedSimpArgs false
def endJ : Jb → Int → Bool → Option (Int × Bool)
  | [], d, q => some (d, q)
  | c :: t, d, q =>
    if c == 39 then endJ t d (!q)
    else if q then endJ t d q
    else if dnJ c d < 0 then none
    else endJ t (upJ c (dnJ c d)) q
theorem walkJ_cons (c : UInt8) (t : Jb) (i : Nat) (d : Int) (q : Bool) : walkJ (c :: t) i d q = if c == 39 then walkJ t (i + 1) d (!q)
    else if q then walkJ t (i + 1) d q
    else if dnJ c d < 0 then ([], false)
    else ((i, c, dnJ c d) :: (walkJ t (i + 1) (upJ c (dnJ c d)) q).1, (walkJ t (i + 1) (upJ c (dnJ c d)) q).2) := rfl
theorem walkJ_app : ∀ (s X : Jb) (i : Nat) (d : Int) (q : Bool) {d' : Int} {q' : Bool}, endJ s d q = some (d', q') →
    walkJ (s ++ X) i d q = ((walkJ s i d q).1 ++ (walkJ X (i + s.length) d' q').1, (walkJ X (i + s.length) d' q').2)
  | [], X, i, d, q, d', q', h => by
    simp only [endJ, Option.some.injEq, Prod.mk.injEq] at h
    obtain ⟨rfl, rfl⟩ := h
    rfl
  | c :: t, X, i, d, q, d', q', h => by
    rw [List.cons_append]
    unfold endJ at h
    rw [walkJ_cons c (t ++ X), walkJ_cons c t, List.length_cons, show i + (t.length + 1) = i + 1 + t.length from by omega]
    split at h
    · rename_i c1; rw [if_pos c1, if_pos c1]; exact walkJ_app t X (i + 1) d (!q) h
    · rename_i c1
      rw [if_neg c1, if_neg c1]
      split at h
      · rename_i c2; rw [if_pos c2, if_pos c2]; exact walkJ_app t X (i + 1) d q h
      · rename_i c2
        rw [if_neg c2, if_neg c2]
        split at h
        · cases h
        · rename_i c3
          rw [if_neg c3, if_neg c3, walkJ_app t X (i + 1) _ q h]
          rfl
theorem walkJ_end : ∀ (s : Jb) (i : Nat) (d : Int) (q : Bool), (walkJ s i d q).2 = true → endJ s d q = some (0, false)
  | [], i, d, q, h => by
    simp only [walkJ, Bool.and_eq_true, beq_iff_eq, Bool.not_eq_true'] at h
    rw [endJ, h.1, h.2]
  | c :: t, i, d, q, h => by
    unfold walkJ at h
    unfold endJ
    split at h
    · rename_i c1; rw [if_pos c1]; exact walkJ_end t _ _ _ h
    · rename_i c1
      rw [if_neg c1]
      split at h
      · rename_i c2; rw [if_pos c2]; exact walkJ_end t _ _ _ h
      · rename_i c2
        rw [if_neg c2]
        split at h
        · cases h
        · rename_i c3
          rw [if_neg c3]
          exact walkJ_end t _ _ _ h
theorem endJ_cons (c : UInt8) (t : Jb) (d : Int) (q : Bool) : endJ (c :: t) d q = if c == 39 then endJ t d (!q)
    else if q then endJ t d q
    else if dnJ c d < 0 then none
    else endJ t (upJ c (dnJ c d)) q := rfl
theorem endJ_plain : ∀ (s : Jb) (d : Int), 0 ≤ d → (∀ c ∈ s, c ≠ 39 ∧ c ≠ 40 ∧ c ≠ 41) → endJ s d false = some (d, false)
  | [], d, _, _ => rfl
  | c :: t, d, hd, h => by
    obtain ⟨h1, h2, h3⟩ := h c List.mem_cons_self
    unfold endJ
    have e1 : (c == 39) = false := by simpa using h1
    have e2 : (c == 40) = false := by simpa using h2
    have e3 : (c == 41) = false := by simpa using h3
    have e4 : dnJ c d = d := by unfold dnJ; rw [e3]; rfl
    have e5 : upJ c d = d := by unfold upJ; rw [e2]; rfl
    simp only [e1, e4, e5, Bool.false_eq_true, if_false]
    rw [if_neg (by omega)]
    exact endJ_plain t d hd (fun x hx => h x (List.mem_cons_of_mem _ hx))
theorem walkJ_move : ∀ (s : Jb) (i k : Nat) (d : Int) (q : Bool), walkJ s (i + k) d q = ((walkJ s i d q).1.map (fun v => (v.1 + k, v.2)), (walkJ s i d q).2)
  | [], i, k, d, q => rfl
  | c :: t, i, k, d, q => by
    have ih := fun (d : Int) (q : Bool) => walkJ_move t (i + 1) k d q
    rw [show i + 1 + k = i + k + 1 from by omega] at ih
    rw [walkJ_cons, walkJ_cons]
    split
    · exact ih d (!q)
    · split
      · exact ih d q
      · split
        · rfl
        · simp only [ih]; rfl
end Go.Proofs.YtnaljgmcpagbbaaGreatDoor

/- Layer 34 in plain Lean: what is written is read again; no program in sight. -/
namespace Go.Proofs.YtnaljgmcpagbbaaGreatDoor
set_option linter.unusedVariables false
set_option linter.unusedSimpArgs false
theorem val_parts {t : Jb} (h : valueJ t = true) : textJ t = true ∧ balJ t = true ∧ ∀ v ∈ visJ t, v.2.1 ≠ 32 ∧ ¬ (v.2.1 = 44 ∧ v.2.2 = 0) := by
  unfold valueJ at h
  rw [Bool.and_eq_true, Bool.and_eq_true, List.all_eq_true] at h
  refine ⟨h.1.1, h.2, fun v hv => ?_⟩
  have := h.1.2 v hv
  simp only [Bool.not_eq_true', Bool.or_eq_false_iff, beq_eq_false_iff_ne, Bool.and_eq_false_iff] at this
  exact ⟨this.1, fun ⟨a, b⟩ => by rcases this.2 with h | h; exact h a; exact h b⟩
theorem val_of {t : Jb} (h1 : textJ t = true) (h2 : balJ t = true) (h3 : ∀ v ∈ visJ t, v.2.1 ≠ 32 ∧ ¬ (v.2.1 = 44 ∧ v.2.2 = 0)) : valueJ t = true := by
  unfold valueJ
  rw [Bool.and_eq_true, Bool.and_eq_true, List.all_eq_true]
  refine ⟨⟨h1, fun v hv => ?_⟩, h2⟩
  obtain ⟨a, b⟩ := h3 v hv
  simp only [Bool.not_eq_true', Bool.or_eq_false_iff, beq_eq_false_iff_ne, Bool.and_eq_false_iff]
  refine ⟨a, ?_⟩
  by_cases h : v.2.1 = 44
  · exact .inr fun e => b ⟨h, e⟩
  · exact .inl h
theorem bal_end {t : Jb} (h : balJ t = true) : endJ t 0 false = some (0, false) := walkJ_end t 0 0 false h
theorem walkJ_char : ∀ (t : Jb) (i : Nat) (d : Int) (q : Bool), ∀ v ∈ (walkJ t i d q).1, ∃ j, v.1 = i + j ∧ t[j]? = some v.2.1
  | [], i, d, q, v, h => by cases h
  | c :: t, i, d, q, v, h => by
    have up : ∀ {j : Nat}, v.1 = i + 1 + j → t[j]? = some v.2.1 → ∃ j, v.1 = i + j ∧ (c :: t)[j]? = some v.2.1 := fun {j} a b => ⟨j + 1, by omega, by simpa using b⟩
    rw [walkJ_cons] at h
    split at h
    · obtain ⟨j, a, b⟩ := walkJ_char t _ _ _ v h; exact up a b
    · split at h
      · obtain ⟨j, a, b⟩ := walkJ_char t _ _ _ v h; exact up a b
      · split at h
        · cases h
        · rcases List.mem_cons.1 h with rfl | h
          · exact ⟨0, rfl, rfl⟩
          · obtain ⟨j, a, b⟩ := walkJ_char t _ _ _ v h; exact up a b
def kchJ (c : UInt8) : Bool := alphaJ c || digJ c || c == 46
theorem words_chars (p : UInt8 → Bool) : ∀ s : Jb, (∀ w ∈ wordsJ 46 s, w.all p = true) → s.all (fun c => p c || c == 46) = true
  | [], _ => rfl
  | x :: t, h => by
    rw [wordsJ] at h
    rw [List.all_cons]
    split at h
    · rename_i hx
      rw [words_chars p t (fun w hw => h w (List.mem_cons_of_mem _ hw)), hx]; simp
    · cases hw : wordsJ 46 t with
      | nil =>
        exfalso
        cases t with
        | nil => cases hw
        | cons y u =>
          rw [wordsJ] at hw
          split at hw
          · cases hw
          · split at hw <;> cases hw
      | cons w0 ws =>
        rw [hw] at h
        have h0 := h (x :: w0) List.mem_cons_self
        rw [List.all_cons, Bool.and_eq_true] at h0
        rw [words_chars p t (fun w hm => by
          rw [hw] at hm
          rcases List.mem_cons.1 hm with rfl | hm
          · exact h0.2
          · exact h w (List.mem_cons_of_mem _ hm)), h0.1]; rfl
theorem nm_chars {w : Jb} (h : nmJ w = true) : w.all (fun c => alphaJ c || digJ c) = true := by
  unfold nmJ at h
  simp only [Bool.and_eq_true] at h
  exact h.2
theorem key_chars {s : Jb} (h : keyJ s = true) : s.all kchJ = true := by
  unfold keyJ at h
  rw [List.all_eq_true] at h
  exact words_chars (fun c => alphaJ c || digJ c) s (fun w hw => nm_chars (h w hw))
theorem kch_facts : ∀ n < 256, kchJ (UInt8.ofNat n) = true → (UInt8.ofNat n ≠ 39 ∧ UInt8.ofNat n ≠ 40 ∧ UInt8.ofNat n ≠ 41) ∧ UInt8.ofNat n ≠ 32 ∧ UInt8.ofNat n ≠ 44 ∧ UInt8.ofNat n ≠ 42 ∧ (decide (32 ≤ UInt8.ofNat n) && decide (UInt8.ofNat n ≤ 126)) = true := by decide +kernel
theorem kch_of {c : UInt8} (h : kchJ c = true) : (c ≠ 39 ∧ c ≠ 40 ∧ c ≠ 41) ∧ c ≠ 32 ∧ c ≠ 44 ∧ c ≠ 42 ∧ (decide (32 ≤ c) && decide (c ≤ 126)) = true := by
  have := kch_facts c.toNat c.toNat_lt
  rw [UInt8.ofNat_toNat] at this
  exact this h
theorem text_app (a b : Jb) : textJ (a ++ b) = (textJ a && textJ b) := by unfold textJ; rw [List.all_append]
theorem val_key {k v : Jb} (hk : keyJ k = true) (hv : valueJ v = true) : valueJ (k ++ 61 :: v) = true := by
  have hc := key_chars hk
  rw [List.all_eq_true] at hc
  obtain ⟨v1, v2, v3⟩ := val_parts hv
  have he : endJ k 0 false = some (0, false) := endJ_plain k 0 (by decide) (fun c h => (kch_of (hc c h)).1)
  have hw : (walkJ (k ++ 61 :: v) 0 0 false) = ((walkJ k 0 0 false).1 ++ (k.length, 61, 0) :: (visJ v).map (fun x => (x.1 + (k.length + 1), x.2)), balJ v) := by
    rw [walkJ_app k (61 :: v) 0 0 false he, walkJ_cons]
    have e1 : ((61 : UInt8) == 39) = false := by decide
    have e2 : dnJ 61 0 = 0 := by decide
    have e3 : upJ 61 0 = 0 := by decide
    rw [e1, e2, e3]
    simp only [Bool.false_eq_true, if_false]
    rw [if_neg (by decide), Nat.zero_add]
    have hm := walkJ_move v 0 (k.length + 1) 0 false
    rw [Nat.zero_add] at hm
    rw [hm]
    rfl
  refine val_of ?_ ?_ ?_
  · rw [text_app]
    have h1 : textJ k = true := by unfold textJ; rw [List.all_eq_true]; exact fun c h => (kch_of (hc c h)).2.2.2.2
    have h2 : textJ (61 :: v) = true := by unfold textJ at v1 ⊢; rw [List.all_cons, v1]; decide
    rw [h1, h2]; rfl
  · unfold balJ; rw [hw]; exact v2
  · intro x hx
    unfold visJ at hx
    rw [hw] at hx
    rcases List.mem_append.1 hx with h | h
    · obtain ⟨j, _, hj⟩ := walkJ_char k 0 0 false x h
      have := kch_of (hc _ (List.mem_of_getElem? hj))
      exact ⟨this.2.1, fun e => this.2.2.1 e.1⟩
    · rcases List.mem_cons.1 h with rfl | h
      · exact ⟨show (61 : UInt8) ≠ 32 by decide, fun e => absurd (show (61 : UInt8) = 44 from e.1) (by decide)⟩
      · obtain ⟨y, hy, rfl⟩ := List.mem_map.1 h
        exact v3 y hy
theorem parse_val {t : Jb} {p : PrmJ} (h : parseJ t = some p) : valueJ t = true := by
  unfold parseJ at h
  cases he : eqJ t with
  | none =>
    rw [he] at h
    dsimp only at h
    split at h
    · rename_i hc; simpa using hc
    · cases h
  | some i =>
    rw [he] at h
    dsimp only at h
    split at h
    · rename_i hc
      rw [Bool.and_eq_true] at hc
      have hx : t[i]? = some 61 := by
        unfold eqJ at he
        cases hf : (visJ t).find? (fun v => v.2.1 == 61 && v.2.2 == 0) with
        | none => rw [hf] at he; cases he
        | some v =>
          rw [hf] at he
          injection he with he
          obtain ⟨j, a, b⟩ := walkJ_char t 0 0 false v (List.mem_of_find?_eq_some hf)
          have hv := List.find?_some hf
          simp only [Bool.and_eq_true, beq_iff_eq] at hv
          have he : v.1 = i := he
          rw [← he, a, Nat.zero_add, b, hv.1]
      have hs : t = t.take i ++ 61 :: t.drop (i + 1) := by
        obtain ⟨h1, h2⟩ := List.getElem?_eq_some_iff.1 hx
        conv => lhs; rw [← List.take_append_drop i t, List.drop_eq_getElem_cons h1, h2]
      rw [hs]
      exact val_key hc.1 hc.2
    · cases h
end Go.Proofs.YtnaljgmcpagbbaaGreatDoor

/- Layer 34 in plain Lean: statements that are written are read again; no program in sight. -/
namespace Go.Proofs.YtnaljgmcpagbbaaGreatDoor
set_option linter.unusedVariables false
set_option linter.unusedSimpArgs false
end Go.Proofs.YtnaljgmcpagbbaaGreatDoor

/- Layer 34 in plain Lean: statements that are written are read again; no program in sight. -/
namespace Go.Proofs.YtnaljgmcpagbbaaGreatDoor
set_option linter.unusedVariables false
set_option linter.unusedSimpArgs false
end Go.Proofs.YtnaljgmcpagbbaaGreatDoor

/- Layer 34 in plain Lean: the reference's values, parts and texts; no program in sight. -/
namespace Go.Proofs.YtnaljgmcpagbbaaGreatDoor
set_option linter.unusedVariables false
set_option linter.unusedSimpArgs false
def plJ : Jb → Int → Bool → Option (List Int × Bool)
  | [], d, q => some ([], d == 0 && !q)
  | c :: t, d, q =>
    if q || c == 39 then (plJ t d (if c == 39 then !q else q)).map fun r => (-1 :: r.1, r.2)
    else if dnJ c d < 0 then none
    else (plJ t (upJ c (dnJ c d)) q).map fun r => (dnJ c d :: r.1, r.2)
theorem plJ_cons (c : UInt8) (t : Jb) (d : Int) (q : Bool) : plJ (c :: t) d q = if q || c == 39 then (plJ t d (if c == 39 then !q else q)).map fun r => (-1 :: r.1, r.2)
    else if dnJ c d < 0 then none
    else (plJ t (upJ c (dnJ c d)) q).map fun r => (dnJ c d :: r.1, r.2) := rfl
def visO : Jb → List Int → Nat → List (Nat × UInt8 × Int)
  | c :: t, x :: l, i => if x < 0 then visO t l (i + 1) else (i, c, x) :: visO t l (i + 1)
  | _, _, _ => []
theorem pl_walk : ∀ (s : Jb) (i : Nat) (d : Int) (q : Bool),
    (∀ l ok, plJ s d q = some (l, ok) → l.length = s.length ∧ walkJ s i d q = (visO s l i, ok)) ∧ (plJ s d q = none → (walkJ s i d q).2 = false)
  | [], i, d, q => by
    refine ⟨fun l ok h => ?_, fun h => by cases h⟩
    simp only [plJ, Option.some.injEq, Prod.mk.injEq] at h
    obtain ⟨rfl, rfl⟩ := h
    exact ⟨rfl, rfl⟩
  | c :: t, i, d, q => by
    rw [plJ_cons, walkJ_cons]
    by_cases c1 : (c == 39) = true
    · rw [if_pos (by rw [c1]; simp), if_pos c1, if_pos c1]
      obtain ⟨h1, h2⟩ := pl_walk t (i + 1) d (!q)
      refine ⟨fun l ok h => ?_, fun h => ?_⟩
      · cases hp : plJ t d (!q) with
        | none => rw [hp] at h; cases h
        | some r =>
          rw [hp] at h
          simp only [Option.map_some, Option.some.injEq, Prod.mk.injEq] at h
          obtain ⟨rfl, rfl⟩ := h
          obtain ⟨a, b⟩ := h1 r.1 r.2 hp
          exact ⟨by simp [a], by rw [b]; simp [visO]⟩
      · rw [Option.map_eq_none_iff] at h; exact h2 h
    · rw [if_neg c1, if_neg c1]
      by_cases c2 : q = true
      · subst c2
        rw [if_pos (by simp), if_pos rfl]
        obtain ⟨h1, h2⟩ := pl_walk t (i + 1) d true
        refine ⟨fun l ok h => ?_, fun h => ?_⟩
        · cases hp : plJ t d true with
          | none => rw [hp] at h; cases h
          | some r =>
            rw [hp] at h
            simp only [Option.map_some, Option.some.injEq, Prod.mk.injEq] at h
            obtain ⟨rfl, rfl⟩ := h
            obtain ⟨a, b⟩ := h1 r.1 r.2 hp
            exact ⟨by simp [a], by rw [b]; simp [visO]⟩
        · rw [Option.map_eq_none_iff] at h; exact h2 h
      · rw [if_neg (by simp [c2]; simpa using c1), if_neg c2]
        by_cases c3 : dnJ c d < 0
        · rw [if_pos c3, if_pos c3]
          exact ⟨(fun l ok h => by cases h), fun _ => rfl⟩
        · rw [if_neg c3, if_neg c3]
          obtain ⟨h1, h2⟩ := pl_walk t (i + 1) (upJ c (dnJ c d)) q
          refine ⟨fun l ok h => ?_, fun h => ?_⟩
          · cases hp : plJ t (upJ c (dnJ c d)) q with
            | none => rw [hp] at h; cases h
            | some r =>
              rw [hp] at h
              simp only [Option.map_some, Option.some.injEq, Prod.mk.injEq] at h
              obtain ⟨rfl, rfl⟩ := h
              obtain ⟨a, b⟩ := h1 r.1 r.2 hp
              exact ⟨by simp [a], by rw [b]; simp [visO, c3]⟩
          · rw [Option.map_eq_none_iff] at h; exact h2 h
theorem pl_some {s : Jb} {l : List Int} {ok : Bool} (h : plJ s 0 false = some (l, ok)) : l.length = s.length ∧ visJ s = visO s l 0 ∧ balJ s = ok := by
  obtain ⟨a, b⟩ := (pl_walk s 0 0 false).1 l ok h
  unfold visJ balJ
  rw [b]; exact ⟨a, rfl, rfl⟩
theorem pl_none {s : Jb} (h : plJ s 0 false = none) : balJ s = false := (pl_walk s 0 0 false).2 h
theorem pl_bal {s : Jb} (h : balJ s = true) : ∃ l, plJ s 0 false = some (l, true) := by
  cases hp : plJ s 0 false with
  | none => rw [pl_none hp] at h; cases h
  | some r =>
    obtain ⟨l, ok⟩ := r
    have := (pl_some hp).2.2
    rw [h] at this
    exact ⟨l, by rw [this]⟩
def okV (c : UInt8) (x : Int) : Bool := !((c == 32 && decide (0 ≤ x)) || (c == 44 && x == 0))
theorem visO_all : ∀ (s : Jb) (l : List Int) (i : Nat), (visO s l i).all (fun v => !(v.2.1 == 32 || (v.2.1 == 44 && v.2.2 == 0))) = (s.zip l).all fun v => okV v.1 v.2
  | [], _, _ => rfl
  | c :: t, [], _ => rfl
  | c :: t, x :: l, i => by
    rw [visO, List.zip_cons_cons, List.all_cons, ← visO_all t l (i + 1)]
    by_cases h : x < 0
    · rw [if_pos h]
      have : okV c x = true := by
        unfold okV
        rw [decide_eq_false (by omega), show (x == 0) = false by simp; omega]; simp
      rw [this, Bool.true_and]
    · rw [if_neg h, List.all_cons]
      congr 1
      unfold okV
      rw [decide_eq_true (by omega), Bool.and_true]
theorem value_of {s : Jb} {l : List Int} {ok : Bool} (h : plJ s 0 false = some (l, ok)) : valueJ s = (ok && ((s.zip l).all (fun v => okV v.1 v.2) && textJ s)) := by
  obtain ⟨h1, h2, h3⟩ := pl_some h
  unfold valueJ
  rw [h2, h3, visO_all]
  cases ok <;> cases textJ s <;> simp
theorem value_no {s : Jb} (h : plJ s 0 false = none) : valueJ s = false := by
  unfold valueJ; rw [pl_none h]; simp
theorem zip_all (s : Jb) (l : List Int) (h : l.length = s.length) (p : UInt8 → Int → Bool) : (s.zip l).all (fun v => p v.1 v.2) = true ↔ ∀ j < s.length, p (s.getD j 0) (l.getD j 0) = true := by
  induction s generalizing l with
  | nil => simp
  | cons c t ih =>
    cases l with
    | nil => simp at h
    | cons x l =>
      rw [List.zip_cons_cons, List.all_cons, Bool.and_eq_true, ih l (by simpa using h)]
      constructor
      · rintro ⟨a, b⟩ j hj
        cases j with
        | zero => exact a
        | succ j => exact b j (by simpa using hj)
      · intro a
        exact ⟨a 0 (by simp), fun j hj => a (j + 1) (by simpa using hj)⟩
def comO (s : Jb) (l : List Int) (i : Nat) : List Nat := ((visO s l i).filter fun v => v.2.1 == 44 && v.2.2 == 0).map (·.1)
theorem comO_cons (c : UInt8) (t : Jb) (x : Int) (l : List Int) (i : Nat) : comO (c :: t) (x :: l) i = if c == 44 && x == 0 then i :: comO t l (i + 1) else comO t l (i + 1) := by
  unfold comO
  rw [visO]
  by_cases h : x < 0
  · rw [if_pos h, if_neg]
    rw [show (x == 0) = false by simp; omega]; simp
  · rw [if_neg h, List.filter_cons]
    by_cases h2 : (c == 44 && x == 0) = true
    · rw [if_pos h2, if_pos h2]; rfl
    · rw [if_neg h2, if_neg h2]
theorem split_of {s : Jb} {l : List Int} {ok : Bool} (h : plJ s 0 false = some (l, ok)) : splitJ s = if ok then some (cutJ s 0 (comO s l 0)) else none := by
  obtain ⟨h1, h2, h3⟩ := pl_some h
  unfold splitJ commaJ comO
  rw [h2, h3]
theorem split_no {s : Jb} (h : plJ s 0 false = none) : splitJ s = none := by unfold splitJ; rw [pl_none h]; rfl
theorem pl_in : ∀ (a : Jb) (d : Int) (q : Bool) {d' : Int} {q' : Bool}, 0 ≤ d → endJ a d q = some (d', q') → ∀ b : Jb, ∃ la : List Int, la.length = a.length ∧ (∀ x ∈ la, x ≠ 0) ∧
    plJ (a ++ b) (d + 1) q = (plJ b (d' + 1) q').map fun r => (la ++ r.1, r.2)
  | [], d, q, d', q', hd, h, b => by
    simp only [endJ, Option.some.injEq, Prod.mk.injEq] at h
    obtain ⟨rfl, rfl⟩ := h
    exact ⟨[], rfl, (fun x hx => by cases hx), by simp⟩
  | c :: t, d, q, d', q', hd, h, b => by
    rw [endJ_cons] at h
    rw [List.cons_append, plJ_cons]
    by_cases c1 : (c == 39) = true
    · rw [if_pos c1] at h
      obtain ⟨la, h1, h2, h3⟩ := pl_in t d (!q) hd h b
      refine ⟨-1 :: la, by simp [h1], fun x hx => ?_, ?_⟩
      · rcases List.mem_cons.1 hx with rfl | hx
        · decide
        · exact h2 x hx
      · rw [if_pos (by rw [c1]; simp), if_pos c1, h3, Option.map_map]; rfl
    · rw [if_neg c1] at h ⊢
      by_cases c2 : q = true
      · subst c2
        rw [if_pos rfl] at h
        obtain ⟨la, h1, h2, h3⟩ := pl_in t d true hd h b
        refine ⟨-1 :: la, by simp [h1], fun x hx => ?_, ?_⟩
        · rcases List.mem_cons.1 hx with rfl | hx
          · decide
          · exact h2 x hx
        · rw [if_pos (by simp), h3, Option.map_map]; rfl
      · rw [if_neg c2] at h
        rw [if_neg (by simp [c2]; simpa using c1)]
        split at h
        · cases h
        · rename_i c3
          have e1 : dnJ c (d + 1) = dnJ c d + 1 := by unfold dnJ; split <;> omega
          have e2 : ∀ y, upJ c (y + 1) = upJ c y + 1 := fun y => by unfold upJ; split <;> omega
          rw [e1, if_neg (by omega), e2]
          obtain ⟨la, h1, h2, h3⟩ := pl_in t (upJ c (dnJ c d)) q (by unfold upJ; split <;> omega) h b
          refine ⟨(dnJ c d + 1) :: la, by simp [h1], fun x hx => ?_, ?_⟩
          · rcases List.mem_cons.1 hx with rfl | hx
            · omega
            · exact h2 x hx
          · rw [h3, Option.map_map]; rfl
theorem pl_paren {I : Jb} (h : balJ I = true) : ∃ la : List Int, la.length = I.length ∧ (∀ x ∈ la, x ≠ 0) ∧ plJ (40 :: (I ++ [41])) 0 false = some (0 :: (la ++ [0]), true) := by
  obtain ⟨la, h1, h2, h3⟩ := pl_in I 0 false (Int.le_refl _) (bal_end h) [41]
  refine ⟨la, h1, h2, ?_⟩
  rw [plJ_cons, if_neg (by decide), if_neg (by decide), show upJ 40 (dnJ 40 0) = 0 + 1 by decide, h3]
  have : plJ [41] (0 + 1) false = some ([0], true) := by decide
  rw [this]; rfl
theorem paren_of {s : Jb} (h2 : 2 ≤ s.length) (h0 : s.getD 0 0 = 40) (h1 : s.getD (s.length - 1) 0 = 41) : s = 40 :: ((s.take (s.length - 1)).drop 1 ++ [41]) := by
  rcases list_snoc s with rfl | ⟨t, x, rfl⟩
  · simp at h2
  · cases t with
    | nil => simp at h2
    | cons c t =>
      simp at h0 h1
      simp [h0, h1]
theorem parts_no {s : Jb} {l : List Int} {ok : Bool} (hl : plJ s 0 false = some (l, ok)) (h2 : 2 ≤ s.length) (h0 : s.getD 0 0 = 40) (h1 : s.getD (s.length - 1) 0 = 41)
    (hz : (∃ i, 1 ≤ i ∧ i < l.length - 1 ∧ l.getD i 0 = 0) ∨ l.getD (l.length - 1) 0 ≠ 0) : splitJ ((s.take (s.length - 1)).drop 1) = none := by
  have hs := paren_of h2 h0 h1
  generalize (s.take (s.length - 1)).drop 1 = I at hs
  subst hs
  unfold splitJ
  cases hb : balJ I with
  | false => rfl
  | true =>
    exfalso
    obtain ⟨la, a1, a2, a3⟩ := pl_paren hb
    rw [a3] at hl
    simp only [Option.some.injEq, Prod.mk.injEq] at hl
    obtain ⟨rfl, _⟩ := hl
    rcases hz with ⟨i, i1, i2, i3⟩ | hz
    · obtain ⟨k, rfl⟩ : ∃ k, i = k + 1 := ⟨i - 1, by omega⟩
      simp only [List.length_cons, List.length_append, List.length_nil] at i2
      have hk : k < la.length := by omega
      rw [List.getD_eq_getElem?_getD, List.getElem?_cons_succ, List.getElem?_append_left hk, List.getElem?_eq_getElem hk] at i3
      exact a2 _ (List.getElem_mem hk) i3
    · apply hz
      simp
theorem eqR_no {s : Jb} (h : plJ s 0 false = none) : parseJ s = none := by
  cases hp : parseJ s with
  | none => rfl
  | some p => have := parse_val hp; rw [value_no h] at this; cases this
end Go.Proofs.YtnaljgmcpagbbaaGreatDoor

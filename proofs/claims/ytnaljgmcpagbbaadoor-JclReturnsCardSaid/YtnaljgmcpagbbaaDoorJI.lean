import Derived.Test.YtnaljgmcpagbbaaDoorJE
import Derived.Test.YtnaljgmcpagbbaaDoorJW
import Derived.Test.YtnaljgmcpagbbaaDoorKC
import Derived.Test.YtnaljgmcpagbbaaDoorKF

/- Layer 34 in plain Lean: what is written is read again, the words; no program in sight. -/
namespace Go.Proofs.YtnaljgmcpagbbaaDoor
set_option linter.unusedVariables false
set_option linter.unusedSimpArgs false
def endJ : Jb → Int → Bool → Option (Int × Bool)
  | [], d, q => some (d, q)
  | c :: t, d, q =>
    if c == 39 then endJ t d (!q)
    else if q then endJ t d q
    else if dnJ c d < 0 then none
    else endJ t (upJ c (dnJ c d)) q
theorem walkJ_cons (c : UInt8) (t : Jb) (i : Nat) (d : Int) (q : Bool) : walkJ (c :: t) i d q = if c == 39 then walkJ t (i + 1) d (!q)
    else if q then walkJ t (i + 1) d q
    else if dnJ c d < 0 then ([], false)
    else ((i, c, dnJ c d) :: (walkJ t (i + 1) (upJ c (dnJ c d)) q).1, (walkJ t (i + 1) (upJ c (dnJ c d)) q).2) := rfl
theorem walkJ_app : ∀ (s X : Jb) (i : Nat) (d : Int) (q : Bool) {d' : Int} {q' : Bool}, endJ s d q = some (d', q') →
    walkJ (s ++ X) i d q = ((walkJ s i d q).1 ++ (walkJ X (i + s.length) d' q').1, (walkJ X (i + s.length) d' q').2)
  | [], X, i, d, q, d', q', h => by
    simp only [endJ, Option.some.injEq, Prod.mk.injEq] at h
    obtain ⟨rfl, rfl⟩ := h
    rfl
  | c :: t, X, i, d, q, d', q', h => by
    rw [List.cons_append]
    unfold endJ at h
    rw [walkJ_cons c (t ++ X), walkJ_cons c t, List.length_cons, show i + (t.length + 1) = i + 1 + t.length from by omega]
    split at h
    · rename_i c1; rw [if_pos c1, if_pos c1]; exact walkJ_app t X (i + 1) d (!q) h
    · rename_i c1
      rw [if_neg c1, if_neg c1]
      split at h
      · rename_i c2; rw [if_pos c2, if_pos c2]; exact walkJ_app t X (i + 1) d q h
      · rename_i c2
        rw [if_neg c2, if_neg c2]
        split at h
        · cases h
        · rename_i c3
          rw [if_neg c3, if_neg c3, walkJ_app t X (i + 1) _ q h]
          rfl
theorem walkJ_end : ∀ (s : Jb) (i : Nat) (d : Int) (q : Bool), (walkJ s i d q).2 = true → endJ s d q = some (0, false)
  | [], i, d, q, h => by
    simp only [walkJ, Bool.and_eq_true, beq_iff_eq, Bool.not_eq_true'] at h
    rw [endJ, h.1, h.2]
  | c :: t, i, d, q, h => by
    unfold walkJ at h
    unfold endJ
    split at h
    · rename_i c1; rw [if_pos c1]; exact walkJ_end t _ _ _ h
    · rename_i c1
      rw [if_neg c1]
      split at h
      · rename_i c2; rw [if_pos c2]; exact walkJ_end t _ _ _ h
      · rename_i c2
        rw [if_neg c2]
        split at h
        · cases h
        · rename_i c3
          rw [if_neg c3]
          exact walkJ_end t _ _ _ h
theorem endJ_walk : ∀ (s : Jb) (i : Nat) (d : Int) (q : Bool), endJ s d q = some (0, false) → (walkJ s i d q).2 = true
  | [], i, d, q, h => by
    simp only [endJ, Option.some.injEq, Prod.mk.injEq] at h
    obtain ⟨rfl, rfl⟩ := h; rfl
  | c :: t, i, d, q, h => by
    unfold endJ at h
    unfold walkJ
    split at h
    · rename_i c1; rw [if_pos c1]; exact endJ_walk t _ _ _ h
    · rename_i c1
      rw [if_neg c1]
      split at h
      · rename_i c2; rw [if_pos c2]; exact endJ_walk t _ _ _ h
      · rename_i c2
        rw [if_neg c2]
        split at h
        · cases h
        · rename_i c3
          rw [if_neg c3]
          exact endJ_walk t _ _ _ h
theorem endJ_cons (c : UInt8) (t : Jb) (d : Int) (q : Bool) : endJ (c :: t) d q = if c == 39 then endJ t d (!q)
    else if q then endJ t d q
    else if dnJ c d < 0 then none
    else endJ t (upJ c (dnJ c d)) q := rfl
theorem endJ_app : ∀ (s X : Jb) (d : Int) (q : Bool), endJ (s ++ X) d q = (endJ s d q).bind fun r => endJ X r.1 r.2
  | [], X, d, q => rfl
  | c :: t, X, d, q => by
    rw [List.cons_append, endJ_cons c (t ++ X), endJ_cons c t]
    split
    · exact endJ_app t X d (!q)
    · split
      · exact endJ_app t X d q
      · split
        · rfl
        · exact endJ_app t X _ q
theorem endJ_plain : ∀ (s : Jb) (d : Int), 0 ≤ d → (∀ c ∈ s, c ≠ 39 ∧ c ≠ 40 ∧ c ≠ 41) → endJ s d false = some (d, false)
  | [], d, _, _ => rfl
  | c :: t, d, hd, h => by
    obtain ⟨h1, h2, h3⟩ := h c List.mem_cons_self
    unfold endJ
    have e1 : (c == 39) = false := by simpa using h1
    have e2 : (c == 40) = false := by simpa using h2
    have e3 : (c == 41) = false := by simpa using h3
    have e4 : dnJ c d = d := by unfold dnJ; rw [e3]; rfl
    have e5 : upJ c d = d := by unfold upJ; rw [e2]; rfl
    simp only [e1, e4, e5, Bool.false_eq_true, if_false]
    rw [if_neg (by omega)]
    exact endJ_plain t d hd (fun x hx => h x (List.mem_cons_of_mem _ hx))
theorem walkJ_move : ∀ (s : Jb) (i k : Nat) (d : Int) (q : Bool), walkJ s (i + k) d q = ((walkJ s i d q).1.map (fun v => (v.1 + k, v.2)), (walkJ s i d q).2)
  | [], i, k, d, q => rfl
  | c :: t, i, k, d, q => by
    have ih := fun (d : Int) (q : Bool) => walkJ_move t (i + 1) k d q
    rw [show i + 1 + k = i + k + 1 from by omega] at ih
    rw [walkJ_cons, walkJ_cons]
    split
    · exact ih d (!q)
    · split
      · exact ih d q
      · split
        · rfl
        · simp only [ih]; rfl
end Go.Proofs.YtnaljgmcpagbbaaDoor

/- Layer 34 in plain Lean: what is written is read again; no program in sight. -/
namespace Go.Proofs.YtnaljgmcpagbbaaDoor
set_option linter.unusedVariables false
set_option linter.unusedSimpArgs false
def joinW : List Jb → Jb
  | [] => []
  | [w] => w
  | w :: ws => w ++ 44 :: joinW ws
theorem joinW_cons (w : Jb) (ws : List Jb) (h : ws ≠ []) : joinW (w :: ws) = w ++ 44 :: joinW ws := by
  cases ws with
  | nil => exact absurd rfl h
  | cons => rfl
theorem val_parts {t : Jb} (h : valueJ t = true) : textJ t = true ∧ balJ t = true ∧ ∀ v ∈ visJ t, v.2.1 ≠ 32 ∧ ¬ (v.2.1 = 44 ∧ v.2.2 = 0) := by
  unfold valueJ at h
  rw [Bool.and_eq_true, Bool.and_eq_true, List.all_eq_true] at h
  refine ⟨h.1.1, h.2, fun v hv => ?_⟩
  have := h.1.2 v hv
  simp only [Bool.not_eq_true', Bool.or_eq_false_iff, beq_eq_false_iff_ne, Bool.and_eq_false_iff] at this
  exact ⟨this.1, fun ⟨a, b⟩ => by rcases this.2 with h | h; exact h a; exact h b⟩
theorem val_of {t : Jb} (h1 : textJ t = true) (h2 : balJ t = true) (h3 : ∀ v ∈ visJ t, v.2.1 ≠ 32 ∧ ¬ (v.2.1 = 44 ∧ v.2.2 = 0)) : valueJ t = true := by
  unfold valueJ
  rw [Bool.and_eq_true, Bool.and_eq_true, List.all_eq_true]
  refine ⟨⟨h1, fun v hv => ?_⟩, h2⟩
  obtain ⟨a, b⟩ := h3 v hv
  simp only [Bool.not_eq_true', Bool.or_eq_false_iff, beq_eq_false_iff_ne, Bool.and_eq_false_iff]
  refine ⟨a, ?_⟩
  by_cases h : v.2.1 = 44
  · exact .inr fun e => b ⟨h, e⟩
  · exact .inl h
theorem bal_end {t : Jb} (h : balJ t = true) : endJ t 0 false = some (0, false) := walkJ_end t 0 0 false h
theorem vis_comma (w Y : Jb) (h : balJ w = true) : visJ (w ++ 44 :: Y) = visJ w ++ (w.length, 44, 0) :: (visJ Y).map (fun v => (v.1 + (w.length + 1), v.2)) ∧ balJ (w ++ 44 :: Y) = balJ Y := by
  unfold visJ balJ
  rw [walkJ_app w (44 :: Y) 0 0 false (bal_end h), walkJ_cons]
  have e1 : ((44 : UInt8) == 39) = false := by decide
  have e2 : dnJ 44 0 = 0 := by decide
  have e3 : upJ 44 0 = 0 := by decide
  rw [e1, e2, e3]
  simp only [Bool.false_eq_true, if_false]
  rw [if_neg (by decide), Nat.zero_add]
  have hm := walkJ_move Y 0 (w.length + 1) 0 false
  rw [Nat.zero_add] at hm
  rw [hm]
  exact ⟨rfl, rfl⟩
theorem comma_none {w : Jb} (h : valueJ w = true) : commaJ w = [] := by
  obtain ⟨_, _, h3⟩ := val_parts h
  unfold commaJ
  rw [List.filter_eq_nil_iff.2, List.map_nil]
  intro v hv
  have := (h3 v hv).2
  simp only [Bool.and_eq_true, beq_iff_eq]
  exact this
theorem comma_cons {w : Jb} (Y : Jb) (h : valueJ w = true) : commaJ (w ++ 44 :: Y) = w.length :: (commaJ Y).map (· + (w.length + 1)) := by
  have hb := (val_parts h).2.1
  have hn := comma_none h
  unfold commaJ at hn ⊢
  rw [(vis_comma w Y hb).1, List.filter_append, List.map_append, hn, List.nil_append, List.filter_cons, if_pos (by rfl), List.map_cons, List.filter_map, List.map_map, List.map_map]
  rfl
theorem cutJ_move (P Y : Jb) : ∀ (l : List Nat) (a : Nat), cutJ (P ++ Y) (a + P.length) (l.map (· + P.length)) = cutJ Y a l
  | [], a => by rw [List.map_nil, cutJ, cutJ, Nat.add_comm, List.drop_append, List.drop_eq_nil_of_le (by omega)]; simp
  | i :: is, a => by
    rw [List.map_cons, cutJ, cutJ]
    have hih := cutJ_move P Y is (i + 1)
    rw [show i + 1 + P.length = i + P.length + 1 by omega] at hih
    rw [hih]
    congr 1
    rw [List.take_append, List.take_of_length_le (by omega), show i + P.length - P.length = i by omega, List.drop_append, List.drop_eq_nil_of_le (by omega), show a + P.length - P.length = a by omega]
    rfl
theorem split_join : ∀ (ws : List Jb), ws ≠ [] → (∀ w ∈ ws, valueJ w = true) → splitJ (joinW ws) = some ws
  | [], h, _ => absurd rfl h
  | [w], _, h => by
    have hv := h w List.mem_cons_self
    unfold splitJ
    rw [show joinW [w] = w from rfl, (val_parts hv).2.1, if_pos rfl, comma_none hv]
    simp [cutJ]
  | w :: w2 :: ws, _, h => by
    have hv := h w List.mem_cons_self
    have ih := split_join (w2 :: ws) (by simp) (fun x hx => h x (List.mem_cons_of_mem _ hx))
    rw [joinW_cons w (w2 :: ws) (by simp)]
    generalize joinW (w2 :: ws) = Y at ih
    unfold splitJ at ih ⊢
    rw [(vis_comma w Y (val_parts hv).2.1).2]
    split at ih
    · rename_i hb
      injection ih with ih
      rw [if_pos hb, comma_cons Y hv, cutJ]
      congr 1
      have hm := cutJ_move (w ++ [44]) Y (commaJ Y) 0
      rw [List.length_append, List.length_singleton, Nat.zero_add, List.append_assoc, List.singleton_append] at hm
      rw [hm, ih]
      simp
    · cases ih
def obJ : Jb → Bool → Option Bool
  | [], q => some q
  | c :: t, q => if c == 39 then obJ t (!q) else if c == 32 && !q then none else obJ t q
theorem obJ_cons (c : UInt8) (t : Jb) (q : Bool) : obJ (c :: t) q = if c == 39 then obJ t (!q) else if c == 32 && !q then none else obJ t q := rfl
theorem obJ_app : ∀ (s X : Jb) (q : Bool), obJ (s ++ X) q = (obJ s q).bind fun r => obJ X r
  | [], X, q => rfl
  | c :: t, X, q => by
    rw [List.cons_append, obJ_cons, obJ_cons]
    split
    · exact obJ_app t X (!q)
    · split
      · rfl
      · exact obJ_app t X q
theorem oper_ob : ∀ (s : Jb) (q r : Bool), obJ s q = some r → operJ s q = (s, !r)
  | [], q, r, h => by injection h with h; subst h; rfl
  | c :: t, q, r, h => by
    rw [obJ_cons] at h
    rw [operJ_step]
    split at h
    · rename_i c1; rw [if_pos c1, oper_ob t (!q) r h]
    · rename_i c1
      rw [if_neg c1]
      split at h
      · cases h
      · rename_i c2
        rw [if_neg c2, oper_ob t q r h]
theorem ob_walk : ∀ (t : Jb) (i : Nat) (d : Int) (q : Bool) {d' : Int} {q' : Bool}, endJ t d q = some (d', q') → (∀ v ∈ (walkJ t i d q).1, v.2.1 ≠ 32) → obJ t q = some q'
  | [], i, d, q, d', q', h, _ => by
    simp only [endJ, Option.some.injEq, Prod.mk.injEq] at h
    rw [← h.2]; rfl
  | c :: t, i, d, q, d', q', h, hv => by
    rw [endJ_cons] at h
    rw [walkJ_cons] at hv
    rw [obJ_cons]
    split at h
    · rename_i c1
      rw [if_pos c1] at hv ⊢
      exact ob_walk t (i + 1) d (!q) h hv
    · rename_i c1
      rw [if_neg c1] at hv ⊢
      split at h
      · rename_i c2
        rw [if_pos c2] at hv
        rw [if_neg (by rw [c2]; simp)]
        exact ob_walk t (i + 1) d q h hv
      · rename_i c2
        rw [if_neg c2] at hv
        split at h
        · cases h
        · rename_i c3
          rw [if_neg c3] at hv
          have hc : c ≠ 32 := hv _ List.mem_cons_self
          rw [if_neg (by simp [hc])]
          exact ob_walk t (i + 1) _ q h (fun v hm => hv v (List.mem_cons_of_mem _ hm))
theorem val_ob {t : Jb} (h : valueJ t = true) : obJ t false = some false := by
  obtain ⟨_, h2, h3⟩ := val_parts h
  exact ob_walk t 0 0 false (bal_end h2) (fun v hv => (h3 v hv).1)
theorem ob_head {t : Jb} {r : Bool} (h : obJ t false = some r) : blankJ t = t := by
  cases t with
  | nil => rfl
  | cons c t =>
    rw [obJ_cons] at h
    have hc : (c == 32) = false := by
      by_cases e : c = 32
      · subst e; cases h
      · simpa using e
    unfold blankJ
    rw [List.dropWhile_cons, hc]; rfl
theorem walkJ_char : ∀ (t : Jb) (i : Nat) (d : Int) (q : Bool), ∀ v ∈ (walkJ t i d q).1, ∃ j, v.1 = i + j ∧ t[j]? = some v.2.1
  | [], i, d, q, v, h => by cases h
  | c :: t, i, d, q, v, h => by
    have up : ∀ {j : Nat}, v.1 = i + 1 + j → t[j]? = some v.2.1 → ∃ j, v.1 = i + j ∧ (c :: t)[j]? = some v.2.1 := fun {j} a b => ⟨j + 1, by omega, by simpa using b⟩
    rw [walkJ_cons] at h
    split at h
    · obtain ⟨j, a, b⟩ := walkJ_char t _ _ _ v h; exact up a b
    · split at h
      · obtain ⟨j, a, b⟩ := walkJ_char t _ _ _ v h; exact up a b
      · split at h
        · cases h
        · rcases List.mem_cons.1 h with rfl | h
          · exact ⟨0, rfl, rfl⟩
          · obtain ⟨j, a, b⟩ := walkJ_char t _ _ _ v h; exact up a b
def kchJ (c : UInt8) : Bool := alphaJ c || digJ c || c == 46
theorem words_chars (p : UInt8 → Bool) : ∀ s : Jb, (∀ w ∈ wordsJ 46 s, w.all p = true) → s.all (fun c => p c || c == 46) = true
  | [], _ => rfl
  | x :: t, h => by
    rw [wordsJ] at h
    rw [List.all_cons]
    split at h
    · rename_i hx
      rw [words_chars p t (fun w hw => h w (List.mem_cons_of_mem _ hw)), hx]; simp
    · cases hw : wordsJ 46 t with
      | nil =>
        exfalso
        cases t with
        | nil => cases hw
        | cons y u =>
          rw [wordsJ] at hw
          split at hw
          · cases hw
          · split at hw <;> cases hw
      | cons w0 ws =>
        rw [hw] at h
        have h0 := h (x :: w0) List.mem_cons_self
        rw [List.all_cons, Bool.and_eq_true] at h0
        rw [words_chars p t (fun w hm => by
          rw [hw] at hm
          rcases List.mem_cons.1 hm with rfl | hm
          · exact h0.2
          · exact h w (List.mem_cons_of_mem _ hm)), h0.1]; rfl
theorem nm_chars {w : Jb} (h : nmJ w = true) : w.all (fun c => alphaJ c || digJ c) = true := by
  unfold nmJ at h
  simp only [Bool.and_eq_true] at h
  exact h.2
theorem key_chars {s : Jb} (h : keyJ s = true) : s.all kchJ = true := by
  unfold keyJ at h
  rw [List.all_eq_true] at h
  exact words_chars (fun c => alphaJ c || digJ c) s (fun w hw => nm_chars (h w hw))
theorem kch_facts : ∀ n < 256, kchJ (UInt8.ofNat n) = true → (UInt8.ofNat n ≠ 39 ∧ UInt8.ofNat n ≠ 40 ∧ UInt8.ofNat n ≠ 41) ∧ UInt8.ofNat n ≠ 32 ∧ UInt8.ofNat n ≠ 44 ∧ UInt8.ofNat n ≠ 42 ∧ (decide (32 ≤ UInt8.ofNat n) && decide (UInt8.ofNat n ≤ 126)) = true := by decide +kernel
theorem kch_of {c : UInt8} (h : kchJ c = true) : (c ≠ 39 ∧ c ≠ 40 ∧ c ≠ 41) ∧ c ≠ 32 ∧ c ≠ 44 ∧ c ≠ 42 ∧ (decide (32 ≤ c) && decide (c ≤ 126)) = true := by
  have := kch_facts c.toNat c.toNat_lt
  rw [UInt8.ofNat_toNat] at this
  exact this h
theorem text_app (a b : Jb) : textJ (a ++ b) = (textJ a && textJ b) := by unfold textJ; rw [List.all_append]
theorem val_key {k v : Jb} (hk : keyJ k = true) (hv : valueJ v = true) : valueJ (k ++ 61 :: v) = true := by
  have hc := key_chars hk
  rw [List.all_eq_true] at hc
  obtain ⟨v1, v2, v3⟩ := val_parts hv
  have he : endJ k 0 false = some (0, false) := endJ_plain k 0 (by decide) (fun c h => (kch_of (hc c h)).1)
  have hw : (walkJ (k ++ 61 :: v) 0 0 false) = ((walkJ k 0 0 false).1 ++ (k.length, 61, 0) :: (visJ v).map (fun x => (x.1 + (k.length + 1), x.2)), balJ v) := by
    rw [walkJ_app k (61 :: v) 0 0 false he, walkJ_cons]
    have e1 : ((61 : UInt8) == 39) = false := by decide
    have e2 : dnJ 61 0 = 0 := by decide
    have e3 : upJ 61 0 = 0 := by decide
    rw [e1, e2, e3]
    simp only [Bool.false_eq_true, if_false]
    rw [if_neg (by decide), Nat.zero_add]
    have hm := walkJ_move v 0 (k.length + 1) 0 false
    rw [Nat.zero_add] at hm
    rw [hm]
    rfl
  refine val_of ?_ ?_ ?_
  · rw [text_app]
    have h1 : textJ k = true := by unfold textJ; rw [List.all_eq_true]; exact fun c h => (kch_of (hc c h)).2.2.2.2
    have h2 : textJ (61 :: v) = true := by unfold textJ at v1 ⊢; rw [List.all_cons, v1]; decide
    rw [h1, h2]; rfl
  · unfold balJ; rw [hw]; exact v2
  · intro x hx
    unfold visJ at hx
    rw [hw] at hx
    rcases List.mem_append.1 hx with h | h
    · obtain ⟨j, _, hj⟩ := walkJ_char k 0 0 false x h
      have := kch_of (hc _ (List.mem_of_getElem? hj))
      exact ⟨this.2.1, fun e => this.2.2.1 e.1⟩
    · rcases List.mem_cons.1 h with rfl | h
      · exact ⟨show (61 : UInt8) ≠ 32 by decide, fun e => absurd (show (61 : UInt8) = 44 from e.1) (by decide)⟩
      · obtain ⟨y, hy, rfl⟩ := List.mem_map.1 h
        exact v3 y hy
theorem parse_val {t : Jb} {p : PrmJ} (h : parseJ t = some p) : valueJ t = true := by
  unfold parseJ at h
  cases he : eqJ t with
  | none =>
    rw [he] at h
    dsimp only at h
    split at h
    · rename_i hc; simpa using hc
    · cases h
  | some i =>
    rw [he] at h
    dsimp only at h
    split at h
    · rename_i hc
      rw [Bool.and_eq_true] at hc
      have hx : t[i]? = some 61 := by
        unfold eqJ at he
        cases hf : (visJ t).find? (fun v => v.2.1 == 61 && v.2.2 == 0) with
        | none => rw [hf] at he; cases he
        | some v =>
          rw [hf] at he
          injection he with he
          obtain ⟨j, a, b⟩ := walkJ_char t 0 0 false v (List.mem_of_find?_eq_some hf)
          have hv := List.find?_some hf
          simp only [Bool.and_eq_true, beq_iff_eq] at hv
          have he : v.1 = i := he
          rw [← he, a, Nat.zero_add, b, hv.1]
      have hs : t = t.take i ++ 61 :: t.drop (i + 1) := by
        obtain ⟨h1, h2⟩ := List.getElem?_eq_some_iff.1 hx
        conv => lhs; rw [← List.take_append_drop i t, List.drop_eq_getElem_cons h1, h2]
      rw [hs]
      exact val_key hc.1 hc.2
    · cases h
theorem word_parse {p : PrmJ} {t : Jb} (h : wordJ p = some t) : parseJ t = some p ∧ valueJ t = true := by
  unfold wordJ at h
  dsimp only at h
  split at h
  · rename_i q hq
    split at h
    · rename_i hc
      injection h with h
      rw [h] at hq
      obtain ⟨h1, h2, h3⟩ := hc
      have : q = p := by cases q; cases p; simp_all
      rw [this] at hq
      exact ⟨hq, parse_val hq⟩
    · cases h
  · cases h
end Go.Proofs.YtnaljgmcpagbbaaDoor

/- Layer 34 in plain Lean: statements that are written are read again; no program in sight. -/
namespace Go.Proofs.YtnaljgmcpagbbaaDoor
set_option linter.unusedVariables false
set_option linter.unusedSimpArgs false
def wordsP : List PrmJ → List Jb := List.map txtS
theorem word_txt {p : PrmJ} {t : Jb} (h : wordJ p = some t) : t = txtS p := by
  have := word_some p
  rw [h] at this
  simpa using this
theorem ob_comma {t : Jb} (h : obJ t false = some false) : obJ (t ++ [44]) false = some false := by
  rw [obJ_app, h]; rfl
theorem last_app (a b : Jb) (h : b ≠ []) : (a ++ b).getLastD 0 = b.getLastD 0 := by
  rcases list_snoc b with rfl | ⟨t, x, rfl⟩
  · exact absurd rfl h
  · rw [← List.append_assoc]; simp
theorem last_comma (t : Jb) : (t ++ [44]).getLastD 0 = 44 := by simp
theorem val_last {t : Jb} (h : valueJ t = true) : t.getLastD 0 ≠ 44 := by
  intro he
  obtain ⟨_, h2, h3⟩ := val_parts h
  rcases list_snoc t with rfl | ⟨u, x, rfl⟩
  · cases he
  · have hx : x = 44 := by simpa using he
    subst hx
    -- the last byte stands outside of quotations and parentheses
    have key : ∀ (u : Jb) (i : Nat) (d : Int) (q : Bool), (walkJ (u ++ [44]) i d q).2 = true → ∃ v ∈ (walkJ (u ++ [44]) i d q).1, v.2.1 = 44 ∧ v.2.2 = 0 := by
      intro u
      induction u with
      | nil =>
        intro i d q hb
        rw [List.nil_append, walkJ_cons] at hb ⊢
        have e1 : ((44 : UInt8) == 39) = false := by decide
        have e2 : ∀ d, dnJ 44 d = d := fun d => by unfold dnJ; rw [if_neg (by decide)]
        have e3 : ∀ d, upJ 44 d = d := fun d => by unfold upJ; rw [if_neg (by decide)]
        rw [e1, e2, e3] at hb ⊢
        simp only [Bool.false_eq_true, if_false] at hb ⊢
        split at hb
        · rename_i hq; subst hq; simp [walkJ] at hb
        · rename_i hq
          rw [if_neg hq]
          split at hb
          · cases hb
          · rename_i hd
            rw [if_neg hd]
            simp only [walkJ, Bool.and_eq_true, beq_iff_eq, Bool.not_eq_true'] at hb
            exact ⟨_, List.mem_cons_self, rfl, hb.1⟩
      | cons c u ih =>
        intro i d q hb
        rw [List.cons_append, walkJ_cons] at hb ⊢
        split at hb
        · rename_i c1; rw [if_pos c1]; exact ih _ _ _ hb
        · rename_i c1
          rw [if_neg c1]
          split at hb
          · rename_i c2; rw [if_pos c2]; exact ih _ _ _ hb
          · rename_i c2
            rw [if_neg c2]
            split at hb
            · cases hb
            · rename_i c3
              rw [if_neg c3]
              obtain ⟨v, hv, e⟩ := ih _ _ _ hb
              exact ⟨v, List.mem_cons_of_mem _ hv, e⟩
    obtain ⟨v, hv, e⟩ := key u 0 0 false h2
    exact (h3 v hv).2 e
theorem note_no (X : Jb) : begJ ([47, 47, 32] ++ X) [47, 47, 42] = false ∧ begJ ([47, 47, 32] ++ X) [47, 47, 32] = true := by
  refine ⟨?_, ?_⟩
  · unfold begJ; simp
  · unfold begJ; simp
theorem rows_read : ∀ (ps : List PrmJ) (i : Nat) (pre F : Jb) {r : List Jb}, 1 ≤ i → rowsJ i (pre ++ F) ps = some r → (∀ x ∈ r, x.length ≤ 80) → F ≠ [] → obJ F false = some false → textJ F = true → (ps = [] → F.getLastD 0 ≠ 44) → (ps ≠ [] → F.getLastD 0 = 44) →
    ∃ F1 rest, r = (pre ++ F1) :: rest ∧ F1 ≠ [] ∧ obJ F1 false = some false ∧ textJ F1 = true ∧ (∀ p ∈ ps, ∃ t, wordJ p = some t) ∧
      ∀ (n k : Nat) (G : Jb) (T : List Jb) (j : Nat), rest.length < k → fieldJ n k (G ++ F1) (rest ++ T) j = .inr (G ++ F ++ joinW (wordsP ps), T, j + rest.length)
  | [], i, pre, F, r, hi, h, hl, hF, ho, ht, h0, h1 => by
    injection h with h
    subst h
    refine ⟨F, [], rfl, hF, ho, ht, (fun p hp => by cases hp), fun n k G T j hk => ?_⟩
    obtain ⟨k, rfl⟩ : ∃ k', k = k' + 1 := ⟨k - 1, by simp at hk; omega⟩
    rw [fieldJ_succ, if_neg (by rw [last_app _ _ hF]; simpa using h0 rfl)]
    simp [wordsP, joinW]
  | p :: ps, i, pre, F, r, hi, h, hl, hF, ho, ht, h0, h1 => by
    rw [rowsJ_cons] at h
    cases hw : wordJ p with
    | none => rw [hw] at h; cases h
    | some t =>
      rw [hw] at h
      dsimp only at h
      obtain ⟨g1, g2⟩ := word_parse hw
      have gt := word_txt hw
      obtain ⟨T2, hT2⟩ : ∃ T2, (if ps.isEmpty = true then t else t ++ [44]) = T2 := ⟨_, rfl⟩
      rw [hT2] at h
      have hT2o : obJ T2 false = some false := by
        rw [← hT2]; split
        · exact val_ob g2
        · exact ob_comma (val_ob g2)
      have hT2t : textJ T2 = true := by
        rw [← hT2]; split
        · exact (val_parts g2).1
        · rw [text_app, (val_parts g2).1]; decide
      split at h
      · cases h
      · rename_i hne
        have hT2n : T2 ≠ [] := by
          rw [← hT2]
          intro e
          split at e
          · rename_i he
            rw [he, e] at hne; simp at hne
          · simp at e
        have hT2a : ps = [] → T2.getLastD 0 ≠ 44 := fun e => by
          subst e
          rw [← hT2]; exact val_last g2
        have hT2b : ps ≠ [] → T2.getLastD 0 = 44 := fun e => by
          have : ps.isEmpty = false := by cases ps with | nil => exact absurd rfl e | cons => rfl
          rw [← hT2, this]; exact last_comma t
        have hjoin : T2 ++ joinW (wordsP ps) = joinW (wordsP (p :: ps)) := by
          rw [← hT2]
          cases ps with
          | nil => simp [wordsP, joinW, gt]
          | cons q qs => simp [wordsP, joinW, gt]
        rw [if_neg (by simp; omega)] at h
        split at h
        · -- on the same line
          rw [List.append_assoc] at h
          obtain ⟨F1, rest, e1, e2, e3, e4, e5, e6⟩ := rows_read ps (i + 1) pre (F ++ T2) (by omega) h hl (by simp [hF]) (by rw [obJ_app, ho]; exact hT2o) (by rw [text_app, ht, hT2t]; rfl) (fun e => by rw [last_app _ _ hT2n]; exact hT2a e) (fun e => by rw [last_app _ _ hT2n]; exact hT2b e)
          refine ⟨F1, rest, e1, e2, e3, e4, fun x hx => ?_, fun n k G T j hk => ?_⟩
          · rcases List.mem_cons.1 hx with rfl | hx
            · exact ⟨t, hw⟩
            · exact e5 x hx
          · rw [e6 n k G T j hk, ← hjoin]; simp
        · -- on a new line
          split at h
          · rename_i r' hr
            injection h with h
            subst h
            obtain ⟨F1, rest, e1, e2, e3, e4, e5, e6⟩ := rows_read ps (i + 1) [47, 47, 32] T2 (by omega) hr (fun x hx => hl x (List.mem_cons_of_mem _ hx)) hT2n hT2o hT2t hT2a hT2b
            subst e1
            refine ⟨F, ([47, 47, 32] ++ F1) :: rest, rfl, hF, ho, ht, fun x hx => ?_, fun n k G T j hk => ?_⟩
            · rcases List.mem_cons.1 hx with rfl | hx
              · exact ⟨t, hw⟩
              · exact e5 x hx
            · obtain ⟨k, rfl⟩ : ∃ k', k = k' + 1 := ⟨k - 1, by simp at hk; omega⟩
              rw [fieldJ_succ, if_pos (by rw [last_app _ _ hF]; simpa using h1 (by simp)), List.cons_append, contJ_cons]
              have hcard : cardJ ([47, 47, 32] ++ F1) = true := by
                unfold cardJ
                rw [decide_eq_true (hl _ (List.mem_cons_of_mem _ List.mem_cons_self)), text_app, e4]; decide
              have hd : blankJ (([47, 47, 32] ++ F1).drop 2) = F1 := by
                show blankJ (32 :: F1) = F1
                have : blankJ (32 :: F1) = blankJ F1 := by unfold blankJ; rw [List.dropWhile_cons]; rfl
                rw [this]; exact ob_head e3
              have hop := oper_ob F1 false false e3
              rw [hd, hop, (note_no F1).1, (note_no F1).2, hcard]
              simp only [Bool.false_and, Bool.false_eq_true, if_false, Bool.and_self, Bool.not_true, Bool.not_false, Bool.false_or, Bool.or_false]
              have hF1 : F1.isEmpty = false := by cases F1 with | nil => exact absurd rfl e2 | cons => rfl
              rw [hF1]
              simp only [Bool.false_eq_true, if_false]
              have := e6 n k (G ++ F) T (j + 1) (by simp at hk; omega)
              rw [this, ← hjoin]
              simp; omega
          · cases h
end Go.Proofs.YtnaljgmcpagbbaaDoor

/- Layer 34 in plain Lean: statements that are written are read again; no program in sight. -/
namespace Go.Proofs.YtnaljgmcpagbbaaDoor
set_option linter.unusedVariables false
set_option linter.unusedSimpArgs false
theorem op_facts {s : Jb} (h : opJ s = true) : textJ s = true ∧ (∀ c ∈ s, c ≠ 32) ∧ s ≠ [] := by
  unfold opJ at h
  simp only [Bool.or_eq_true, beq_iff_eq] at h
  rcases h with (((h | h) | h) | h) | h <;> subst h <;> refine ⟨by decide, by decide, by decide⟩
theorem label_chars {s : Jb} (h : labelJ s = true) : ∀ c ∈ s, kchJ c = true := by
  unfold labelJ at h
  rw [Bool.or_eq_true, Bool.and_eq_true] at h
  rcases h with h | h
  · cases s with
    | nil => intro c hc; cases hc
    | cons c t => cases h
  · exact List.all_eq_true.1 (key_chars h.1)
theorem cut1_at (a b : Jb) (h : ∀ c ∈ a, c ≠ 32) : cut1J (a ++ 32 :: b) = (a, blankJ b) := by
  have hp : ∀ c ∈ a, (c != 32) = true := fun c hc => by simpa using h c hc
  unfold cut1J
  rw [List.takeWhile_append_of_pos hp, List.dropWhile_append_of_pos hp]
  simp [blankJ]
theorem cut1_end (a : Jb) (h : ∀ c ∈ a, c ≠ 32) : cut1J a = (a, []) := by
  have hp : ∀ c ∈ a, (c != 32) = true := fun c hc => by simpa using h c hc
  unfold cut1J
  have h1 := List.takeWhile_append_of_pos (l₂ := []) hp
  have h2 := List.dropWhile_append_of_pos (l₂ := []) hp
  rw [List.append_nil] at h1 h2
  rw [h1, h2]; simp [blankJ]
theorem parses_words : ∀ ps : List PrmJ, (∀ p ∈ ps, ∃ t, wordJ p = some t) → parsesJ (wordsP ps) = some ps ∧ ∀ w ∈ wordsP ps, valueJ w = true
  | [], _ => ⟨rfl, fun w h => by cases h⟩
  | p :: ps, h => by
    obtain ⟨t, ht⟩ := h p List.mem_cons_self
    obtain ⟨h1, h2⟩ := word_parse ht
    have h3 := word_txt ht
    subst h3
    obtain ⟨h4, h5⟩ := parses_words ps (fun q hq => h q (List.mem_cons_of_mem _ hq))
    refine ⟨?_, fun w hw => ?_⟩
    · show parsesJ (txtS p :: wordsP ps) = _
      rw [parses_step, h1, h4]
    · rcases List.mem_cons.1 hw with rfl | hw
      · exact h2
      · exact h5 w hw
theorem line_no (name Y : Jb) (hn : ∀ c ∈ name, kchJ c = true) (x : UInt8) (hx : x ∈ Y) (hx2 : x ≠ 32) :
    begJ ([47, 47] ++ name ++ 32 :: Y) [47, 47] = true ∧ skipJ ([47, 47] ++ name ++ 32 :: Y) = false := by
  refine ⟨by unfold begJ; simp, ?_⟩
  unfold skipJ
  have h1 : begJ ([47, 47] ++ name ++ 32 :: Y) [47, 47, 42] = false := by
    unfold begJ
    cases name with
    | nil => simp
    | cons c t =>
      have := (kch_of (hn c List.mem_cons_self)).2.2.2.1
      simp [this]
  have h2 : begJ ([47, 47] ++ name ++ 32 :: Y) [47, 42] = false := by unfold begJ; simp
  have h3 : (([47, 47] ++ name ++ 32 :: Y).drop 2).all (· == 32) = false := by
    rw [List.all_eq_false]
    refine ⟨x, by simp [hx], by simpa using hx2⟩
  rw [h1, h2, h3]; simp
theorem stmt_read (s : StmJ) {r : List Jb} (h : rendJ s = some r) : ∃ l rest, r = l :: rest ∧ cardJ l = true ∧ skipJ l = false ∧ begJ l [47, 47] = true ∧
    ∀ (n : Nat) (T : List Jb) (i : Nat), stmtJ n l (rest ++ T) i = .inr (⟨(i : Int) + 1, s.name, s.op, s.params, []⟩, T, i + r.length) := by
  obtain ⟨line, name, op, params, data⟩ := s
  unfold rendJ at h
  dsimp only at h ⊢
  split at h
  · cases h
  rename_i hh
  rw [Bool.or_eq_true, not_or, Bool.not_eq_true', Bool.not_eq_false, Bool.not_eq_true', Bool.not_eq_false] at hh
  obtain ⟨hlab, hop⟩ := hh
  split at h
  · rename_i r' hr
    split at h
    · rename_i hall
      injection h with h
      subst h
      have hall : ∀ x ∈ r', x.length ≤ 80 := fun x hx => by simpa using List.all_eq_true.1 hall x hx
      obtain ⟨o1, o2, o3⟩ := op_facts hop
      have hk := label_chars hlab
      have hnb : ∀ c ∈ name, c ≠ 32 := fun c hc => (kch_of (hk c hc)).2.1
      have hnt : textJ name = true := by unfold textJ; rw [List.all_eq_true]; exact fun c hc => (kch_of (hk c hc)).2.2.2.2
      obtain ⟨x, hx⟩ : ∃ x, x ∈ op := by cases op with | nil => exact absurd rfl o3 | cons x t => exact ⟨x, List.mem_cons_self⟩
      cases params with
      | nil =>
        injection hr with hr
        subst hr
        obtain ⟨b1, b2⟩ := line_no name op hk x hx (o2 x hx)
        have hd : ([47, 47] ++ name ++ 32 :: op).drop 2 = name ++ 32 :: op := by simp
        have e1 := cut1_at name op hnb
        have e2 : blankJ op = op := by
          cases op with
          | nil => rfl
          | cons c t =>
            have : (c == 32) = false := by simpa using o2 c List.mem_cons_self
            unfold blankJ; rw [List.dropWhile_cons, this]; rfl
        rw [e2] at e1
        have e3 := cut1_end op o2
        refine ⟨_, [], rfl, ?_, b2, b1, fun n T i => ?_⟩
        · unfold cardJ
          rw [decide_eq_true (hall _ List.mem_cons_self), text_app, text_app, hnt]
          show (true && (true && true && textJ (32 :: op))) = true
          have : textJ (32 :: op) = textJ op := by unfold textJ; rw [List.all_cons]; simp
          rw [this, o1]; rfl
        · unfold stmtJ
          dsimp only
          rw [hd, e1]
          dsimp only
          rw [e3]
          dsimp only
          rw [hlab, hop, fieldJ_succ]
          simp [operJ]
      | cons p ps =>
        rw [rowsJ_cons] at hr
        cases hw : wordJ p with
        | none => rw [hw] at hr; cases hr
        | some t =>
          rw [hw] at hr
          dsimp only at hr
          obtain ⟨g1, g2⟩ := word_parse hw
          have gt := word_txt hw
          obtain ⟨T2, hT2⟩ : ∃ T2, (if ps.isEmpty = true then t else t ++ [44]) = T2 := ⟨_, rfl⟩
          rw [hT2] at hr
          have hT2o : obJ T2 false = some false := by
            rw [← hT2]; split
            · exact val_ob g2
            · exact ob_comma (val_ob g2)
          have hT2t : textJ T2 = true := by
            rw [← hT2]; split
            · exact (val_parts g2).1
            · rw [text_app, (val_parts g2).1]; decide
          split at hr
          · cases hr
          · rename_i hne
            have hT2n : T2 ≠ [] := by
              rw [← hT2]
              intro e
              split at e
              · rename_i he
                rw [he, e] at hne; simp at hne
              · simp at e
            have hT2a : ps = [] → T2.getLastD 0 ≠ 44 := fun e => by
              subst e
              rw [← hT2]; exact val_last g2
            have hT2b : ps ≠ [] → T2.getLastD 0 = 44 := fun e => by
              have : ps.isEmpty = false := by cases ps with | nil => exact absurd rfl e | cons => rfl
              rw [← hT2, this]; exact last_comma t
            have hjoin : T2 ++ joinW (wordsP ps) = joinW (wordsP (p :: ps)) := by
              rw [← hT2]
              cases ps with
              | nil => simp [wordsP, joinW, gt]
              | cons q qs => simp [wordsP, joinW, gt]
            rw [if_pos (by decide : ((0 : Nat) == 0) = true)] at hr
            have hpre : ([47, 47] ++ name ++ 32 :: op) ++ 32 :: T2 = ([47, 47] ++ name ++ 32 :: (op ++ [32])) ++ T2 := by simp
            rw [hpre] at hr
            obtain ⟨F1, rest, e1, e2, e3, e4, e5, e6⟩ := rows_read ps 1 ([47, 47] ++ name ++ 32 :: (op ++ [32])) T2 (Nat.le_refl _) hr hall hT2n hT2o hT2t hT2a hT2b
            subst e1
            have hl : ([47, 47] ++ name ++ 32 :: (op ++ [32])) ++ F1 = [47, 47] ++ name ++ 32 :: (op ++ 32 :: F1) := by simp
            rw [hl] at hall ⊢
            obtain ⟨b1, b2⟩ := line_no name (op ++ 32 :: F1) hk x (by simp [hx]) (o2 x hx)
            have hd : ([47, 47] ++ name ++ 32 :: (op ++ 32 :: F1)).drop 2 = name ++ 32 :: (op ++ 32 :: F1) := by simp
            have c1 := cut1_at name (op ++ 32 :: F1) hnb
            have c2 : blankJ (op ++ 32 :: F1) = op ++ 32 :: F1 := by
              cases op with
              | nil => exact absurd rfl o3
              | cons c t =>
                have : (c == 32) = false := by simpa using o2 c List.mem_cons_self
                unfold blankJ; rw [List.cons_append, List.dropWhile_cons, this]; rfl
            rw [c2] at c1
            have c3 := cut1_at op F1 o2
            rw [ob_head e3] at c3
            have c4 := oper_ob F1 false false e3
            obtain ⟨w1, w2⟩ := parses_words (p :: ps) (fun q hq => by
              rcases List.mem_cons.1 hq with rfl | hq
              · exact ⟨t, hw⟩
              · exact e5 q hq)
            have w3 := split_join (wordsP (p :: ps)) (by simp [wordsP]) w2
            refine ⟨_, rest, rfl, ?_, b2, b1, fun n T i => ?_⟩
            · unfold cardJ
              rw [decide_eq_true (hall _ List.mem_cons_self), text_app, text_app, hnt]
              have : textJ (32 :: (op ++ 32 :: F1)) = (textJ op && textJ F1) := by
                have h1 : ∀ y : Jb, textJ (32 :: y) = textJ y := fun y => by unfold textJ; rw [List.all_cons]; simp
                rw [h1, text_app, h1]
              rw [this, o1, e4]; decide
            · have hfld := e6 n ((rest ++ T).length + 1) [] T (i + 1) (by simp; omega)
              rw [List.nil_append, List.nil_append, hjoin] at hfld
              have hg : (joinW (wordsP (p :: ps))).isEmpty = false := by
                rw [← hjoin]; cases T2 with | nil => exact absurd rfl hT2n | cons => rfl
              unfold stmtJ
              dsimp only
              rw [hd, c1]
              dsimp only
              rw [c3]
              dsimp only
              rw [c4]
              dsimp only
              rw [hlab, hop, hfld]
              dsimp only
              rw [hg, w3]
              dsimp only
              rw [w1]
              simp only [Bool.not_false, Bool.not_true, Bool.or_false, Bool.false_eq_true, if_false, List.length_cons]
              rw [show i + 1 + rest.length = i + (rest.length + 1) by omega]
    · cases h
  · cases h
theorem begJ_card : cardJ [47, 42] = true ∧ begJ [47, 42] [47, 42] = true ∧ begJ [47, 42] [47, 47] = false := by decide
theorem dataJ_consJ (k : Nat) (l : Jb) (t : List Jb) (i : Nat) : dataJ k (l :: t) i = if k == 0 then .inr ([], l :: t, i)
    else if k == 1 && begJ l [47, 47] then .inr ([], l :: t, i)
    else if !cardJ l then .inl (i + 1)
    else if begJ l [47, 42] then .inr ([], t, i + 1)
    else match dataJ k t (i + 1) with
      | .inl b => .inl b
      | .inr (d, t2, i2) => .inr (l :: d, t2, i2) := rfl
theorem data_read (k : Nat) (hk : (k == 0) = false) (T : List Jb) : ∀ (d : List Jb) (i : Nat), (∀ t ∈ d, cardJ t = true ∧ begJ t [47, 42] = false ∧ (k == 1 && begJ t [47, 47]) = false) →
    dataJ k (d ++ [47, 42] :: T) i = .inr (d, T, i + d.length + 1)
  | [], i, _ => by
    obtain ⟨a, b, c⟩ := begJ_card
    rw [List.nil_append, dataJ_consJ, hk, a, b, c]
    simp
  | t :: d, i, h => by
    obtain ⟨a, b, c⟩ := h t List.mem_cons_self
    rw [List.cons_append, dataJ_consJ, hk, a, b, c, data_read k hk T d (i + 1) (fun x hx => h x (List.mem_cons_of_mem _ hx))]
    simp; omega
theorem data_none : ∀ (T : List Jb) (i : Nat), dataJ 0 T i = .inr ([], T, i)
  | [], i => rfl
  | l :: t, i => rfl
def ascL (N : Int) : Int → List StmJ → Prop
  | _, [] => True
  | a, s :: t => a < s.line ∧ s.line ≤ N ∧ ascL N s.line t
theorem ascL_le {N : Int} : ∀ (l : List StmJ) {a b : Int}, a ≤ b → ascL N b l → ascL N a l
  | [], _, _, _, _ => trivial
  | s :: t, a, b, h, h2 => ⟨by have := h2.1; omega, h2.2⟩
theorem deck_read (n : Nat) (N : Int) : ∀ (l : List StmJ) {L : List Jb} (i k : Nat), printJ l = some L → L.length ≤ k → (i + L.length : Nat) ≤ N →
    ∃ ss, deckJ n k L i = .inr ss ∧ ss.length = l.length ∧ (∀ (j : Nat) x y, ss[j]? = some x → l[j]? = some y → likeS false x y) ∧ ascL N i ss
  | [], L, i, k, h, hk, hN => by
    injection h with h
    subst h
    refine ⟨[], by cases k <;> rfl, rfl, fun j x y hx => by simp at hx, trivial⟩
  | s :: ss, L, i, k, h, hk, hN => by
    rw [printJ_cons] at h
    cases hr : rendJ s with
    | none => rw [hr] at h; cases h
    | some r =>
      rw [hr] at h
      dsimp only at h
      split at h
      · cases h
      rename_i hfit
      rw [Bool.not_eq_true', Bool.not_eq_false] at hfit
      cases ho : printJ ss with
      | none => rw [ho] at h; cases h
      | some o =>
        rw [ho] at h
        injection h with h
        subst h
        obtain ⟨l, rest, e1, e2, e3, e4, e5⟩ := stmt_read s hr
        subst e1
        obtain ⟨k, rfl⟩ : ∃ k', k = k' + 1 := ⟨k - 1, by simp at hk; omega⟩
        have hkind : kindJ ⟨(i : Int) + 1, s.name, s.op, s.params, []⟩ = kindJ s := rfl
        have hfit : ∀ t ∈ s.data, (kindJ s == 0) = false ∧ cardJ t = true ∧ begJ t [47, 42] = false ∧ (kindJ s == 1 && begJ t [47, 47]) = false := fun t ht => by
          have := List.all_eq_true.1 hfit t ht
          rw [Bool.not_eq_true', Bool.or_eq_false_iff, Bool.or_eq_false_iff, Bool.or_eq_false_iff, Bool.not_eq_false'] at this
          exact ⟨this.1.1.1, this.1.1.2, this.1.2, this.2⟩
        obtain ⟨m, hm⟩ : ∃ m, m = (if (kindJ s == 0) = true then 0 else s.data.length + 1) := ⟨_, rfl⟩
        have hdata : dataJ (kindJ s) (s.data ++ (if (kindJ s == 0) = true then [] else [[47, 42]]) ++ o) (i + (l :: rest).length) = .inr (s.data, o, i + (l :: rest).length + m) := by
          cases hz : (kindJ s == 0) with
          | true =>
            have hd : s.data = [] := by
              cases hd : s.data with
              | nil => rfl
              | cons t ts =>
                rw [hd] at hfit
                have := (hfit t List.mem_cons_self).1
                rw [hz] at this; cases this
            have hz' : kindJ s = 0 := by simpa using hz
            rw [hz] at hm
            rw [hd, hz', hm]
            simp [data_none]
          | false =>
            rw [hz] at hm
            simp only [Bool.false_eq_true, if_false] at hm ⊢
            rw [List.append_assoc, List.singleton_append, data_read (kindJ s) hz o s.data _ (fun t ht => (hfit t ht).2), hm]
            congr 3
        have hlen : (l :: rest ++ s.data ++ (if (kindJ s == 0) = true then [] else [[47, 42]]) ++ o).length = (l :: rest).length + m + o.length := by
          cases hz : (kindJ s == 0) with
          | true =>
            have hd : s.data = [] := by
              cases hd : s.data with
              | nil => rfl
              | cons t ts =>
                rw [hd] at hfit
                have := (hfit t List.mem_cons_self).1
                rw [hz] at this; cases this
            rw [hz] at hm; rw [hd, hm]; simp; omega
          | false => rw [hz] at hm; rw [hm]; simp; omega
        rw [hlen] at hk hN
        obtain ⟨ss2, g1, g2, g3, g4⟩ := deck_read n N ss (i + (l :: rest).length + m) k ho (by simp only [List.length_cons] at hk; omega) (by omega)
        refine ⟨⟨(i : Int) + 1, s.name, s.op, s.params, s.data⟩ :: ss2, ?_, by simp [g2], fun j x y hx hy => ?_, ?_, ?_, ?_⟩
        · rw [show l :: rest ++ s.data ++ (if (kindJ s == 0) = true then [] else [[47, 42]]) ++ o = l :: (rest ++ (s.data ++ (if (kindJ s == 0) = true then [] else [[47, 42]]) ++ o)) by simp, deckJ_cons, e2, e3, e4]
          simp only [Bool.not_true, Bool.false_eq_true, if_false]
          rw [e5]
          dsimp only
          rw [hkind, hdata]
          dsimp only
          rw [g1]
        · cases j with
          | zero =>
            simp only [List.getElem?_cons_zero, Option.some.injEq] at hx hy
            subst hx; subst hy
            exact ⟨(fun h => by cases h), rfl, rfl, rfl, rfl⟩
          | succ j =>
            simp only [List.getElem?_cons_succ] at hx hy
            exact g3 j x y hx hy
        · show (i : Int) < i + 1; omega
        · show (i : Int) + 1 ≤ N
          simp only [List.length_cons] at hN; omega
        · exact ascL_le ss2 (by show (i : Int) + 1 ≤ _; simp only [List.length_cons]; omega) g4
theorem scan_print {l : List StmJ} {L : List Jb} (h : printJ l = some L) (hz : sizeJ L ≤ 65536) :
    ∃ ss, scanJ L = (ss, 0, 0) ∧ ss.length = l.length ∧ (∀ (j : Nat) x y, ss[j]? = some x → l[j]? = some y → likeS false x y) ∧ ascL L.length 0 ss := by
  obtain ⟨ss, h1, h2, h3, h4⟩ := deck_read L.length L.length l 0 L.length h (Nat.le_refl _) (by simp)
  refine ⟨ss, ?_, h2, h3, h4⟩
  unfold scanJ
  rw [if_neg (by omega), h1]
end Go.Proofs.YtnaljgmcpagbbaaDoor

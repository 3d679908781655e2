import Derived.Test.YtedbbinlcdgkoaaGreatDoorYK

/- Layer 19: the texts of ConfigKnown. No program in sight. -/
namespace Go.Proofs.YtedbbinlcdgkoaaGreatDoor
open Go.Lib
-- FUSE
-- LESS
set_option linter.unusedVariables false
set_option linter.unusedSimpArgs false
theorem spl1_setU (i : Nat) (x : V) : ∀ l : List V, i < l.length → spl1 i [x] l = l.set i x := fun l h => by
  induction l generalizing i with
  | nil => simp at h
  | cons a t ih =>
    cases i with
    | zero => cases t <;> rfl
    | succ i => show a :: spl1 i [x] t = a :: t.set i x; rw [ih i (by simpa using h)]
end Go.Proofs.YtedbbinlcdgkoaaGreatDoor

/- Rows of one length: a cell of them, and a cell put. No program in sight. -/
namespace Go.Proofs.YtedbbinlcdgkoaaGreatDoor
set_option linter.unusedVariables false
set_option linter.unusedSimpArgs false
theorem flat_getD {k : Nat} {d : V} : ∀ {rows : List (List V)} (hk : ∀ r ∈ rows, r.length = k) (p j : Nat), p < rows.length → j < k → rows.flatten.getD (p * k + j) d = (rows.getD p []).getD j d
  | [], _, p, j, hp, _ => by simp at hp
  | r :: rows, hk, 0, j, hp, hj => by
    have hr : r.length = k := hk r List.mem_cons_self
    rw [List.flatten_cons, Nat.zero_mul, Nat.zero_add]
    simp only [List.getD_eq_getElem?_getD, List.getElem?_append_left (by omega : j < r.length), List.getElem?_cons_zero, Option.getD_some]
  | r :: rows, hk, p + 1, j, hp, hj => by
    have hr : r.length = k := hk r List.mem_cons_self
    have ih := flat_getD (d := d) (fun x hx => hk x (List.mem_cons_of_mem _ hx)) p j (by simpa using hp) hj
    have he : (p + 1) * k + j - k = p * k + j := by rw [Nat.succ_mul]; omega
    have hge : r.length ≤ (p + 1) * k + j := by rw [hr, Nat.succ_mul]; omega
    rw [List.flatten_cons]
    simp only [List.getD_eq_getElem?_getD, List.getElem?_cons_succ] at ih ⊢
    rw [List.getElem?_append_right hge, hr, he, ih]
theorem flat_set {k : Nat} {v : V} : ∀ {rows : List (List V)} (hk : ∀ r ∈ rows, r.length = k) (p j : Nat), p < rows.length → j < k → rows.flatten.set (p * k + j) v = (rows.set p ((rows.getD p []).set j v)).flatten
  | [], _, p, j, hp, _ => by simp at hp
  | r :: rows, hk, 0, j, hp, hj => by
    have hr : r.length = k := hk r List.mem_cons_self
    rw [List.flatten_cons, Nat.zero_mul, Nat.zero_add, List.set_append, if_pos (by omega)]
    simp [List.getD_eq_getElem?_getD]
  | r :: rows, hk, p + 1, j, hp, hj => by
    have hr : r.length = k := hk r List.mem_cons_self
    have ih := flat_set (v := v) (fun x hx => hk x (List.mem_cons_of_mem _ hx)) p j (by simpa using hp) hj
    have he : (p + 1) * k + j - k = p * k + j := by rw [Nat.succ_mul]; omega
    rw [List.flatten_cons, List.set_append, if_neg (by rw [hr, Nat.succ_mul]; omega), hr, he, ih]
    simp [List.getD_eq_getElem?_getD]
theorem flatR_len {k : Nat} : ∀ {rows : List (List V)}, (∀ r ∈ rows, r.length = k) → rows.flatten.length = rows.length * k
  | [], _ => by simp
  | r :: rows, hk => by
    rw [List.flatten_cons, List.length_append, hk r List.mem_cons_self, flatR_len (fun x hx => hk x (List.mem_cons_of_mem _ hx)), List.length_cons, Nat.succ_mul]; omega
theorem flat_put {k : Nat} {r0 : List V} : ∀ {rows : List (List V)} (hk : ∀ r ∈ rows, r.length = k) (p : Nat), p < rows.length → r0.length = k → spl1 (p * k) r0 rows.flatten = (rows.set p r0).flatten
  | [], _, p, hp, _ => by simp at hp
  | r :: rows, hk, 0, hp, hj => by
    have hr : r.length = k := hk r List.mem_cons_self
    rw [List.flatten_cons, Nat.zero_mul, spl1_eq _ _ _ (by simp; omega)]
    simp [hj, hr, List.drop_append]
  | r :: rows, hk, p + 1, hp, hj => by
    have hr : r.length = k := hk r List.mem_cons_self
    have hl := flatR_len (fun x hx => hk x (List.mem_cons_of_mem _ hx))
    have ih := flat_put (fun x hx => hk x (List.mem_cons_of_mem _ hx)) p (by simpa using hp) hj
    have hp' : p < rows.length := by simpa using hp
    have hb : p * k + k ≤ rows.length * k := by rw [← Nat.succ_mul]; exact Nat.mul_le_mul_right _ hp'
    rw [spl1_eq _ _ _ (by rw [hl, hj]; exact hb)] at ih
    have e1 : (p + 1) * k = k + p * k := by rw [Nat.succ_mul]; omega
    rw [List.flatten_cons, spl1_eq _ _ _ (by rw [List.length_append, hl, hj, hr, e1]; omega), e1]
    rw [List.set_cons_succ, List.flatten_cons, ← ih, List.take_append, List.drop_append, hr, List.take_of_length_le (by omega), List.drop_eq_nil_of_le (by omega : r.length ≤ k + p * k + r0.length)]
    have e2 : k + p * k - k = p * k := by omega
    have e3 : k + p * k + r0.length - k = p * k + r0.length := by omega
    rw [e2, e3]; simp
theorem par_len (ps : List ParT) : (ps.map parC).flatten.length = ps.length * 2 := by
  rw [flatR_len (k := 2) (by simp [parC]), List.length_map]
theorem uni_len (us : List UniT) : (us.map uniC).flatten.length = us.length * 5 := by
  rw [flatR_len (k := 5) (by simp [uniC]), List.length_map]
theorem par_size {ps : List ParT} {p : Nat} (h : p < ps.length) : (ps.map parC).flatten.getD (p * 2) .any = .int .i64 ps[p].size := by
  have := flat_getD (k := 2) (d := V.any) (rows := ps.map parC) (by simp [parC]) p 0 (by simpa using h) (by omega)
  simpa [h, parC] using this
theorem par_cls {ps : List ParT} {p : Nat} (h : p < ps.length) : (ps.map parC).flatten.getD (p * 2 + 1) .any = .str ps[p].cls := by
  have := flat_getD (k := 2) (d := V.any) (rows := ps.map parC) (by simp [parC]) p 1 (by simpa using h) (by omega)
  simpa [h, parC] using this
theorem par_set0 {ps : List ParT} {p : Nat} (h : p < ps.length) (z : Int) : spl1 (p * 2) [.int .i64 z] (ps.map parC).flatten = ((ps.set p ⟨z, ps[p].cls⟩).map parC).flatten := by
  rw [spl1_setU _ _ _ (by rw [par_len]; omega)]
  have := flat_set (k := 2) (v := .int .i64 z) (rows := ps.map parC) (by simp [parC]) p 0 (by simpa using h) (by omega)
  rw [Nat.add_zero] at this
  rw [this, List.map_set]
  simp [h, parC]
theorem par_set1 {ps : List ParT} {p : Nat} (h : p < ps.length) (z : Bs) : spl1 (p * 2 + 1) [.str z] (ps.map parC).flatten = ((ps.set p ⟨ps[p].size, z⟩).map parC).flatten := by
  rw [spl1_setU _ _ _ (by rw [par_len]; omega)]
  have := flat_set (k := 2) (v := .str z) (rows := ps.map parC) (by simp [parC]) p 1 (by simpa using h) (by omega)
  rw [this, List.map_set]
  simp [h, parC]
theorem uni_get {us : List UniT} {p : Nat} (h : p < us.length) (j : Nat) (hj : j < 5) : (us.map uniC).flatten.getD (p * 5 + j) .any = (uniC us[p]).getD j .any := by
  have := flat_getD (k := 5) (d := V.any) (rows := us.map uniC) (by simp [uniC]) p j (by simpa using h) hj
  rw [this]
  simp [h]
theorem uni_set {us : List UniT} {p : Nat} (h : p < us.length) (j : Nat) (hj : j < 5) (v : V) (u : UniT) (hu : (uniC us[p]).set j v = uniC u) : spl1 (p * 5 + j) [v] (us.map uniC).flatten = ((us.set p u).map uniC).flatten := by
  rw [spl1_setU _ _ _ (by rw [uni_len]; omega)]
  have := flat_set (k := 5) (v := v) (rows := us.map uniC) (by simp [uniC]) p j (by simpa using h) hj
  rw [this, List.map_set, ← hu]
  simp [h]
theorem uni_putRow {us : List UniT} {p : Nat} (h : p < us.length) (u : UniT) : spl1 (p * 5) (uniC u) (us.map uniC).flatten = ((us.set p u).map uniC).flatten := by
  rw [flat_put (k := 5) (by simp [uniC]) p (by simpa using h) rfl, List.map_set]
theorem uni_first : ∀ {us : List UniT} (h : 0 < us.length), (us.map uniC).flatten.take 5 = [.int .i64 us[0].addr, .int .i64 us[0].kind, .str us[0].ser, .int .i64 us[0].cyl, .int .i64 us[0].head]
  | x :: r, _ => by simp [uniC]
end Go.Proofs.YtedbbinlcdgkoaaGreatDoor

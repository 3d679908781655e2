import Derived.Lib.ParseIntB
import Derived.Lib.ItoaNum
import Derived.Test.YtjedikaidbobdaaGreatDoorSpecA
/- Layers 2, 22 and 26 in plain Lean: codes, numbers, records in blocks; no program in sight. -/
namespace Go.Proofs.YtjedikaidbobdaaGreatDoor
open Go.Lib (decDigits parseUintM parseUintB)
set_option linter.unusedVariables false
set_option linter.unusedSimpArgs false
abbrev Tb := List UInt8
def codesT : Tb := [0x40, 0x5a, 0x7f, 0x7b, 0x5b, 0x6c, 0x50, 0x7d, 0x4d, 0x5d, 0x5c, 0x4e, 0x6b, 0x60, 0x4b, 0x61, 0xf0, 0xf1, 0xf2, 0xf3, 0xf4, 0xf5, 0xf6, 0xf7, 0xf8, 0xf9, 0x7a, 0x5e, 0x4c, 0x7e, 0x6e, 0x6f,
  0x7c, 0xc1, 0xc2, 0xc3, 0xc4, 0xc5, 0xc6, 0xc7, 0xc8, 0xc9, 0xd1, 0xd2, 0xd3, 0xd4, 0xd5, 0xd6, 0xd7, 0xd8, 0xd9, 0xe2, 0xe3, 0xe4, 0xe5, 0xe6, 0xe7, 0xe8, 0xe9, 0xba, 0xe0, 0xbb, 0xb0, 0x6d,
  0x79, 0x81, 0x82, 0x83, 0x84, 0x85, 0x86, 0x87, 0x88, 0x89, 0x91, 0x92, 0x93, 0x94, 0x95, 0x96, 0x97, 0x98, 0x99, 0xa2, 0xa3, 0xa4, 0xa5, 0xa6, 0xa7, 0xa8, 0xa9, 0xc0, 0x4f, 0xd0, 0xa1]
def okC (c : UInt8) : Bool := decide (32 ≤ c) && decide (c ≤ 126)
def codeT (c : UInt8) : UInt8 := codesT.getD (c.toNat - 32) 0
def txtT (s : Tb) : Bool := s.all okC
theorem txt_app (a b : Tb) : txtT (a ++ b) = (txtT a && txtT b) := by unfold txtT; rw [List.all_append]
theorem txt_rep (n : Nat) (c : UInt8) (h : okC c = true) : txtT (List.replicate n c) = true := by
  unfold txtT; rw [List.all_eq_true]; intro x hx; rw [List.eq_of_mem_replicate hx]; exact h
def encT (s : Tb) : Tb := s.map codeT
def padB (s : Tb) (n : Nat) : Tb := s ++ List.replicate (n - s.length) 32
theorem padB_len (s : Tb) (n : Nat) (h : s.length ≤ n) : (padB s n).length = n := by unfold padB; simp; omega
theorem padB_txt (s : Tb) (n : Nat) (h : txtT s = true) : txtT (padB s n) = true := by
  unfold padB; rw [txt_app, h, txt_rep _ 32 (by decide)]; rfl
def trimB (s : Tb) : Tb := (s.reverse.dropWhile (· == 32)).reverse
theorem trim_pad {s : Tb} (n : Nat) (h : s = [] ∨ s.getLast? ≠ some 32) : trimB (padB s n) = s := by
  unfold trimB padB
  rw [List.reverse_append, List.reverse_replicate]
  have : ∀ k : Nat, (List.replicate k (32 : UInt8) ++ s.reverse).dropWhile (· == 32) = s.reverse.dropWhile (· == 32) := fun k => by
    induction k with
    | zero => rfl
    | succ k ih => rw [List.replicate_succ, List.cons_append, List.dropWhile_cons]; exact ih
  rw [this]
  rcases List.eq_nil_or_concat s with rfl | ⟨t, x, rfl⟩
  · rfl
  · rcases h with h | h
    · simp at h
    · have hx : (x == 32) = false := by simpa using h
      rw [List.concat_eq_append, List.reverse_append, List.reverse_singleton, List.singleton_append, List.dropWhile_cons, hx]
      simp
def digT (n k : Nat) : Tb := List.replicate (k - (decDigits n).length) 48 ++ decDigits n
theorem dec_len : ∀ (k n : Nat), 1 ≤ k → n < 10 ^ k → (decDigits n).length ≤ k
  | 0, _, h, _ => by omega
  | k + 1, n, _, h => by
    rw [decDigits]
    split
    · simp
    · rename_i h10
      have hk : 1 ≤ k := by
        cases k with
        | zero => simp at h; omega
        | succ k => omega
      have := dec_len k (n / 10) hk (by rw [Nat.pow_succ] at h; omega)
      rw [List.length_append, List.length_singleton]; omega
theorem dec_dig : ∀ (n : Nat), ∀ c ∈ decDigits n, 48 ≤ c.toNat ∧ c.toNat ≤ 57 := by
  intro n
  induction n using Nat.strongRecOn with
  | _ n ih =>
    intro c hc
    rw [decDigits] at hc
    split at hc
    · rename_i h
      rw [List.mem_singleton] at hc; subst hc
      rw [UInt8.toNat_ofNat_of_lt' (by show _ < 256; omega)]; omega
    · rename_i h
      rcases List.mem_append.1 hc with h1 | h1
      · exact ih (n / 10) (by omega) c h1
      · rw [List.mem_singleton] at h1; subst h1
        have : n % 10 < 10 := Nat.mod_lt _ (by decide)
        rw [UInt8.toNat_ofNat_of_lt' (by show _ < 256; omega)]; omega
theorem dig_len {n k : Nat} (hk : 1 ≤ k) (h : n < 10 ^ k) : (digT n k).length = k := by
  have := dec_len k n hk h
  unfold digT; simp; omega
theorem dig_dig (n k : Nat) : ∀ c ∈ digT n k, 48 ≤ c.toNat ∧ c.toNat ≤ 57 := by
  intro c hc
  rcases List.mem_append.1 hc with h | h
  · rw [List.eq_of_mem_replicate h]; decide
  · exact dec_dig n c h
theorem dig_txt (n k : Nat) : txtT (digT n k) = true := by
  unfold txtT
  rw [List.all_eq_true]
  intro c hc
  obtain ⟨h1, h2⟩ := dig_dig n k c hc
  unfold okC
  rw [Bool.and_eq_true, decide_eq_true_eq, decide_eq_true_eq, UInt8.le_iff_toNat_le, UInt8.le_iff_toNat_le]
  exact ⟨by show 32 ≤ c.toNat; omega, by show c.toNat ≤ 126; omega⟩
theorem parse_cons (M acc : Nat) (c : UInt8) (r : Tb) : parseUintM M acc (c :: r) = if 48 ≤ c.toNat ∧ c.toNat ≤ 57 then
      if 1844674407370955162 ≤ acc then .range
      else if M < acc * 10 + (c.toNat - 48) then .range
      else parseUintM M (acc * 10 + (c.toNat - 48)) r
    else .syntax := by rw [parseUintM]
theorem parse_app (M : Nat) : ∀ (a b : Tb) (acc v : Nat), parseUintM M acc a = .ok v → parseUintM M acc (a ++ b) = parseUintM M v b
  | [], b, acc, v, h => by unfold parseUintM at h; injection h with h; subst h; rfl
  | c :: a, b, acc, v, h => by
    rw [parse_cons] at h
    rw [List.cons_append, parse_cons]
    split at h
    · rename_i h1
      rw [if_pos h1]
      split at h
      · cases h
      · rename_i h2
        rw [if_neg h2]
        split at h
        · cases h
        · rename_i h3
          rw [if_neg h3]
          exact parse_app M a b _ v h
    · cases h
theorem parse_one {M v d : Nat} (hd : d < 10) (hv : v < 1000000) (hM : v * 10 + d ≤ M) : parseUintM M v [UInt8.ofNat (48 + d)] = .ok (v * 10 + d) := by
  have hn : (UInt8.ofNat (48 + d)).toNat = 48 + d := UInt8.toNat_ofNat_of_lt' (by show _ < 256; omega)
  rw [parse_cons, hn, if_pos (by omega), if_neg (by omega), if_neg (by omega), parseUintM]
  congr 1; omega
theorem parse_zeros (M : Nat) : ∀ k : Nat, parseUintM M 0 (List.replicate k 48) = .ok 0
  | 0 => rfl
  | k + 1 => by
    rw [List.replicate_succ, parse_cons, if_pos (by decide), if_neg (by decide), if_neg (by simp)]
    exact parse_zeros M k
theorem parse_dec (M : Nat) (hM : 1000000 ≤ M) : ∀ n : Nat, n < 1000000 → parseUintM M 0 (decDigits n) = .ok n := by
  intro n
  induction n using Nat.strongRecOn with
  | _ n ih =>
    intro h
    rw [decDigits]
    split
    · rename_i h10
      have := parse_one (M := M) (v := 0) h10 (by omega) (by omega)
      simpa using this
    · rename_i h10
      rw [parse_app M _ _ 0 (n / 10) (ih (n / 10) (by omega) (by omega)), parse_one (Nat.mod_lt _ (by decide)) (by omega) (by omega)]
      congr 1; omega
theorem parse_dig {n k : Nat} (hk : 1 ≤ k) (h : n < 1000000) : parseUintB 32 (digT n k) = .ok n := by
  have hne : digT n k ≠ [] := by
    unfold digT
    rw [decDigits]
    split <;> simp
  unfold parseUintB
  rw [if_neg hne]
  unfold digT
  rw [parse_app _ _ _ 0 0 (parse_zeros _ _), parse_dec _ (by decide) n h]
structure DcbT where
  org : Int
  fmt : Int
  bl : Bool
  asa : Bool
  lrecl : Int
  blk : Int
  klen : Int
  kpos : Int
  deriving DecidableEq
def lensT (d : DcbT) : Bool :=
  if d.fmt = 1 then decide (1 ≤ d.lrecl) && decide (d.lrecl ≤ d.blk) && (if d.bl then decide (d.blk % d.lrecl = 0) else decide (d.blk = d.lrecl))
  else if d.fmt = 2 then decide (4 < d.lrecl) && decide (d.lrecl ≤ d.blk - 4)
  else if d.fmt = 3 then decide (d.lrecl = 0) && !d.bl
  else false
def keysT (d : DcbT) : Bool :=
  if d.org = 3 then decide (d.fmt = 1) && decide (1 ≤ d.klen) && decide (d.klen ≤ 64) && decide (0 ≤ d.kpos) && decide (d.kpos ≤ d.lrecl - d.klen)
  else decide (d.klen = 0) && decide (d.kpos = 0)
def chkT (d : DcbT) : Bool := decide (1 ≤ d.org) && decide (d.org ≤ 3) && decide (1 ≤ d.blk) && decide (d.blk ≤ 1024) && lensT d && keysT d
def fitT (d : DcbT) (n : Int) : Bool :=
  if d.fmt = 1 then decide (n = d.lrecl)
  else if d.fmt = 2 then decide (1 ≤ n) && decide (n ≤ d.lrecl - 4)
  else decide (1 ≤ n) && decide (n ≤ d.blk)
def desT (n : Nat) : Tb := [UInt8.ofNat (n / 256), UInt8.ofNat n, 0, 0]
def lenT (d : DcbT) (r : Tb) : Nat := if d.fmt = 2 then r.length + 4 else r.length
def flushT (d : DcbT) (z : List Tb × Tb) : List Tb × Tb := if z.2 = [] then z else (z.1 ++ [if d.fmt = 2 then desT z.2.length ++ z.2.drop 4 else z.2], [])
def putT (d : DcbT) (c r : Tb) : Tb := if d.fmt = 2 then (if c = [] then [0, 0, 0, 0] else c) ++ desT (r.length + 4) ++ r else c ++ r
def stepT (d : DcbT) (z : List Tb × Tb) (r : Tb) : List Tb × Tb :=
  let y := if !d.bl || decide (d.blk < ((z.2.length + lenT d r : Nat) : Int)) then flushT d z else z
  (y.1, putT d y.2 r)
def blkT (d : DcbT) (l : List Tb) : List Tb := (flushT d (l.foldl (stepT d) ([], []))).1
def bodyT (d : DcbT) : List Tb → Tb
  | [] => []
  | r :: g => (if d.fmt = 2 then desT (r.length + 4) ++ r else r) ++ bodyT d g
def encG (d : DcbT) (g : List Tb) : Tb := if d.fmt = 2 then desT ((bodyT d g).length + 4) ++ bodyT d g else bodyT d g
def curG (d : DcbT) (g : List Tb) : Tb := if g = [] then [] else if d.fmt = 2 then [0, 0, 0, 0] ++ bodyT d g else bodyT d g
theorem body_app (d : DcbT) : ∀ a b : List Tb, bodyT d (a ++ b) = bodyT d a ++ bodyT d b
  | [], b => rfl
  | r :: a, b => by rw [List.cons_append, bodyT, bodyT, body_app d a b, List.append_assoc]
structure GrpT (d : DcbT) (g : List Tb) : Prop where
  ne : g ≠ []
  one : d.bl = false → g.length = 1
  le : ((encG d g).length : Int) ≤ d.blk
  fit : ∀ r ∈ g, fitT d r.length = true
theorem chk_parts {d : DcbT} (h : chkT d = true) : 1 ≤ d.org ∧ d.org ≤ 3 ∧ 1 ≤ d.blk ∧ d.blk ≤ 1024 ∧ lensT d = true ∧ keysT d = true := by
  unfold chkT at h
  simp only [Bool.and_eq_true, decide_eq_true_eq] at h
  exact ⟨h.1.1.1.1.1, h.1.1.1.1.2, h.1.1.1.2, h.1.1.2, h.1.2, h.2⟩
theorem fit_ne {d : DcbT} (h : chkT d = true) {r : Tb} (hr : fitT d r.length = true) : r ≠ [] := by
  rintro rfl
  obtain ⟨_, _, _, _, hl, _⟩ := chk_parts h
  unfold fitT at hr
  unfold lensT at hl
  split at hr
  · rename_i hf
    rw [if_pos hf] at hl
    simp only [Bool.and_eq_true, decide_eq_true_eq, List.length_nil] at hl hr
    have hr : (0 : Int) = d.lrecl := hr
    omega
  · split at hr
    · simp at hr
    · simp at hr
theorem fit_le {d : DcbT} (h : chkT d = true) {r : Tb} (hr : fitT d r.length = true) : ((encG d [r]).length : Int) ≤ d.blk := by
  obtain ⟨_, _, _, _, hl, _⟩ := chk_parts h
  unfold fitT at hr
  unfold lensT at hl
  unfold encG bodyT bodyT
  by_cases hf : d.fmt = 1
  · rw [if_pos hf] at hl hr
    rw [if_neg (by rw [hf]; decide), if_neg (by rw [hf]; decide)]
    simp only [Bool.and_eq_true, decide_eq_true_eq, List.append_nil] at hl hr ⊢
    omega
  · rw [if_neg hf] at hl hr
    by_cases h2 : d.fmt = 2
    · rw [if_pos h2] at hl hr
      rw [if_pos h2, if_pos h2]
      simp only [Bool.and_eq_true, decide_eq_true_eq, List.append_nil, List.length_append, desT, List.length_cons, List.length_nil] at hl hr ⊢
      omega
    · rw [if_neg h2] at hl hr
      rw [if_neg h2, if_neg h2]
      simp only [Bool.and_eq_true, decide_eq_true_eq, List.append_nil] at hl hr ⊢
      omega
theorem enc_len (d : DcbT) (g : List Tb) (h : g ≠ []) : (encG d g).length = (curG d g).length := by
  unfold encG curG
  rw [if_neg h]
  split <;> simp [desT]
theorem cur_put (d : DcbT) (g : List Tb) (r : Tb) : putT d (curG d g) r = curG d (g ++ [r]) := by
  unfold putT curG
  rw [if_neg (by simp : ¬ g ++ [r] = [])]
  by_cases hf : d.fmt = 2
  · rw [if_pos hf, if_pos hf, body_app]
    by_cases hg : g = []
    · rw [if_pos hg, if_pos rfl, hg]; simp [bodyT, hf]
    · rw [if_neg hg, if_pos hf, if_neg (by simp)]; simp [bodyT, hf]
  · rw [if_neg hf, if_neg hf, body_app]
    by_cases hg : g = []
    · rw [if_pos hg, hg]; simp [bodyT, hf]
    · rw [if_neg hg, if_neg hf]; simp [bodyT, hf]
theorem cur_nil {d : DcbT} (h : chkT d = true) {g : List Tb} (hg : ∀ r ∈ g, fitT d r.length = true) : curG d g = [] ↔ g = [] := by
  constructor
  · intro hc
    cases g with
    | nil => rfl
    | cons r g =>
      exfalso
      have hr := fit_ne h (hg r List.mem_cons_self)
      unfold curG at hc
      rw [if_neg (by simp)] at hc
      split at hc
      · simp at hc
      · rename_i hf
        rw [bodyT, if_neg hf] at hc
        exact hr (List.append_eq_nil_iff.1 hc).1
  · rintro rfl; rfl
theorem flush_cur {d : DcbT} (h : chkT d = true) (out : List Tb) {g : List Tb} (hg : ∀ r ∈ g, fitT d r.length = true) (hne : g ≠ []) : flushT d (out, curG d g) = (out ++ [encG d g], []) := by
  unfold flushT
  rw [if_neg (fun e => hne ((cur_nil h hg).1 e))]
  unfold curG encG
  rw [if_neg hne]
  by_cases hf : d.fmt = 2
  · rw [if_pos hf, if_pos hf, if_pos hf]
    have e : ([0, 0, 0, 0] ++ bodyT d g : Tb).length = (bodyT d g).length + 4 := by rw [List.length_append]; simp; omega
    rw [e]; simp
  · rw [if_neg hf, if_neg hf, if_neg hf]
theorem fold_groups {d : DcbT} (h : chkT d = true) : ∀ (l : List Tb) (gs : List (List Tb)) (g : List Tb), (∀ r ∈ l, fitT d r.length = true) → (∀ x ∈ gs, GrpT d x) → (g = [] ∨ GrpT d g) →
    ∃ (gs' : List (List Tb)) (g' : List Tb), l.foldl (stepT d) (gs.map (encG d), curG d g) = (gs'.map (encG d), curG d g') ∧ (∀ x ∈ gs', GrpT d x) ∧ (g' = [] ∨ GrpT d g') ∧ gs'.flatten ++ g' = gs.flatten ++ g ++ l
  | [], gs, g, _, h1, h2 => ⟨gs, g, rfl, h1, h2, by simp⟩
  | r :: l, gs, g, hl, h1, h2 => by
    have hr := hl r List.mem_cons_self
    have hgf : ∀ x ∈ g, fitT d x.length = true := by
      rcases h2 with rfl | h2
      · intro x hx; cases hx
      · exact h2.fit
    have hsing : GrpT d [r] := ⟨by simp, fun _ => rfl, fit_le h hr, fun x hx => by rw [List.mem_singleton] at hx; subst hx; exact hr⟩
    rw [List.foldl_cons]
    by_cases hc : (!d.bl || decide (d.blk < (((curG d g).length + lenT d r : Nat) : Int))) = true
    · have hstep : stepT d (gs.map (encG d), curG d g) r = ((if g = [] then gs else gs ++ [g]).map (encG d), curG d [r]) := by
        unfold stepT
        simp only
        rw [if_pos hc]
        by_cases hg : g = []
        · rw [if_pos hg]
          have : curG d g = [] := by rw [hg]; rfl
          rw [this]
          have hf : flushT d (gs.map (encG d), []) = (gs.map (encG d), []) := by unfold flushT; rw [if_pos rfl]
          rw [hf]
          have := cur_put d [] r
          rw [show curG d [] = [] from rfl, List.nil_append] at this
          simp only [this]
        · rw [if_neg hg, flush_cur h _ hgf hg]
          have := cur_put d [] r
          rw [show curG d [] = [] from rfl, List.nil_append] at this
          simp only [this, List.map_append, List.map_cons, List.map_nil]
      rw [hstep]
      obtain ⟨gs', g', e1, e2, e3, e4⟩ := fold_groups h l (if g = [] then gs else gs ++ [g]) [r] (fun x hx => hl x (List.mem_cons_of_mem _ hx)) (fun x hx => by
        split at hx
        · exact h1 x hx
        · rename_i hg
          rcases List.mem_append.1 hx with hx | hx
          · exact h1 x hx
          · rw [List.mem_singleton] at hx; subst hx
            rcases h2 with h2 | h2
            · exact absurd h2 hg
            · exact h2) (.inr hsing)
      refine ⟨gs', g', e1, e2, e3, ?_⟩
      rw [e4]
      split
      · rename_i hg; rw [hg]; simp
      · simp
    · rw [Bool.not_eq_true] at hc
      have hc2 := hc
      rw [Bool.or_eq_false_iff, Bool.not_eq_false', decide_eq_false_iff_not] at hc2
      have hstep : stepT d (gs.map (encG d), curG d g) r = (gs.map (encG d), curG d (g ++ [r])) := by
        unfold stepT
        simp only
        rw [hc]
        simp only [Bool.false_eq_true, if_false, cur_put]
      rw [hstep]
      have hgr : GrpT d (g ++ [r]) := by
        by_cases hg : g = []
        · rw [hg]; exact hsing
        · refine ⟨by simp, (fun hb => by rw [hc2.1] at hb; cases hb), ?_, fun x hx => ?_⟩
          · have e := enc_len d (g ++ [r]) (by simp)
            rw [e]
            have hcl : (curG d (g ++ [r])).length = (curG d g).length + lenT d r := by
              rw [← cur_put]
              unfold putT lenT
              have hcn : curG d g ≠ [] := fun e => hg ((cur_nil h hgf).1 e)
              split
              · simp [desT]
              · simp
            rw [hcl]; omega
          · rcases List.mem_append.1 hx with hx | hx
            · exact hgf x hx
            · rw [List.mem_singleton] at hx; subst hx; exact hr
      obtain ⟨gs', g', e1, e2, e3, e4⟩ := fold_groups h l gs (g ++ [r]) (fun x hx => hl x (List.mem_cons_of_mem _ hx)) h1 (.inr hgr)
      exact ⟨gs', g', e1, e2, e3, by rw [e4]; simp⟩
theorem blk_groups {d : DcbT} (h : chkT d = true) {l : List Tb} (hl : ∀ r ∈ l, fitT d r.length = true) : ∃ gs : List (List Tb), blkT d l = gs.map (encG d) ∧ (∀ x ∈ gs, GrpT d x) ∧ gs.flatten = l := by
  obtain ⟨gs, g, e1, e2, e3, e4⟩ := fold_groups h l [] [] hl (fun x hx => by cases hx) (.inl rfl)
  have e1 : l.foldl (stepT d) ([], []) = (gs.map (encG d), curG d g) := e1
  unfold blkT
  rw [e1]
  by_cases hg : g = []
  · refine ⟨gs, ?_, e2, by rw [hg] at e4; simpa using e4⟩
    have : curG d g = [] := by rw [hg]; rfl
    rw [this]; unfold flushT; rw [if_pos rfl]
  · rcases e3 with e3 | e3
    · exact absurd e3 hg
    · refine ⟨gs ++ [g], ?_, fun x hx => ?_, by simpa using e4⟩
      · rw [flush_cur h _ e3.fit hg]; simp
      · rcases List.mem_append.1 hx with hx | hx
        · exact e2 x hx
        · rw [List.mem_singleton] at hx; subst hx; exact e3
end Go.Proofs.YtjedikaidbobdaaGreatDoor

import Derived.Shelf.GgClosure.StringsIndexFunc
import Derived.Test.YtldkmclfhjcicaaGreatDoorSpecA

/- Layer 27 in plain Lean: names and generations; no program in sight. -/
namespace Go.Proofs.YtldkmclfhjcicaaGreatDoor
set_option linter.unusedVariables false

def capC (c : UInt8) : Bool := (decide (65 ≤ c.toNat) && decide (c.toNat ≤ 90)) || (decide (48 ≤ c.toNat) && decide (c.toNat ≤ 57))
def digC (c : UInt8) : Bool := decide (48 ≤ c.toNat) && decide (c.toNat ≤ 57)
def partC (c : UInt8) : Bool := capC c || c == 64 || c == 35 || c == 36
def partOk (p : Bs) : Bool := decide (1 ≤ p.length) && decide (p.length ≤ 8) && !(digC (p.headD 0)) && p.all partC
def splitAtC (d : UInt8) : Bs → List Bs
  | [] => [[]]
  | c :: t => if c = d then [] :: splitAtC d t else match splitAtC d t with
    | [] => [[c]]
    | p :: ps => (c :: p) :: ps
theorem splitAtC_ne (d : UInt8) : ∀ s, splitAtC d s ≠ []
  | [] => by simp [splitAtC]
  | c :: t => by
    unfold splitAtC
    split
    · simp
    · split <;> simp
theorem splitAtC_cons (d : UInt8) : ∀ (p t : Bs), (∀ c ∈ p, c ≠ d) → splitAtC d (p ++ d :: t) = p :: splitAtC d t
  | [], t, _ => by simp [splitAtC]
  | c :: p, t, h => by
    have ih := splitAtC_cons d p t (fun x hx => h x (List.mem_cons_of_mem _ hx))
    rw [List.cons_append, splitAtC, if_neg (h c List.mem_cons_self), ih]
theorem splitAtC_last (d : UInt8) : ∀ (p : Bs), (∀ c ∈ p, c ≠ d) → splitAtC d p = [p]
  | [], _ => rfl
  | c :: p, h => by
    have ih := splitAtC_last d p (fun x hx => h x (List.mem_cons_of_mem _ hx))
    rw [splitAtC, if_neg (h c List.mem_cons_self), ih]
def nameOk (s : Bs) : Bool := decide (s.length ≤ 44) && (splitAtC 46 s).all partOk

def dig4 (n : Nat) : Bs := [UInt8.ofNat (48 + n / 1000), UInt8.ofNat (48 + n / 100 % 10), UInt8.ofNat (48 + n / 10 % 10), UInt8.ofNat (48 + n % 10)]
def genName (base : Bs) (n : Nat) : Bs := base ++ [46, 71] ++ dig4 n ++ [86, 48, 48]
def genOk (base : Bs) (n : Int) : Bool := nameOk base && decide (base.length ≤ 35) && decide (1 ≤ n) && decide (n ≤ 9999)
def genS (base : Bs) (n : Int) : Bs × Bool := if genOk base n then (genName base n.toNat, true) else ([], false)

def tailN : Bs → Nat
  | [46, 71, a, b, c, d, 86, 48, 48] => if digC a && digC b && digC c && digC d then 1000 * (a.toNat - 48) + 100 * (b.toNat - 48) + 10 * (c.toNat - 48) + (d.toNat - 48) else 0
  | _ => 0
def numS (base name : Bs) : Nat := if name.take base.length = base then tailN (name.drop base.length) else 0

theorem tailN_dig4 (n : Nat) (h : n ≤ 9999) : tailN ([46, 71] ++ dig4 n ++ [86, 48, 48]) = n := by
  have e : ∀ d, d < 10 → (UInt8.ofNat (48 + d)).toNat = 48 + d := fun d hd => by rw [UInt8.toNat_ofNat']; omega
  have c : ∀ d, d < 10 → digC (UInt8.ofNat (48 + d)) = true := fun d hd => by
    unfold digC; rw [e d hd]; simp; omega
  show tailN [46, 71, _, _, _, _, 86, 48, 48] = n
  show (if _ then _ else _) = n
  rw [c _ (by omega), c _ (by omega), c _ (by omega), c _ (by omega), e _ (by omega), e _ (by omega), e _ (by omega), e _ (by omega)]
  simp only [Bool.and_self, if_true, Nat.add_sub_cancel_left]
  exact (by omega : 1000 * (n / 1000) + 100 * (n / 100 % 10) + 10 * (n / 10 % 10) + n % 10 = n)
theorem numS_gen (base : Bs) (n : Nat) (h : n ≤ 9999) : numS base (genName base n) = n := by
  unfold numS genName
  rw [List.append_assoc, List.append_assoc, List.take_left', List.drop_left' rfl, if_pos rfl, ← List.append_assoc]
  · exact tailN_dig4 n h
  · rfl
theorem tailN_form : ∀ (t : Bs), tailN t ≠ 0 → ∃ n, 1 ≤ n ∧ n ≤ 9999 ∧ tailN t = n ∧ t = [46, 71] ++ dig4 n ++ [86, 48, 48] := by
  intro t h
  unfold tailN at h
  split at h
  · rename_i a b c d
    split at h
    · rename_i hd
      simp only [Bool.and_eq_true] at hd
      obtain ⟨⟨⟨h1, h2⟩, h3⟩, h4⟩ := hd
      have r : ∀ x : UInt8, digC x = true → 48 ≤ x.toNat ∧ x.toNat ≤ 57 := fun x hx => by unfold digC at hx; simpa using hx
      have r1 := r a h1
      have r2 := r b h2
      have r3 := r c h3
      have r4 := r d h4
      refine ⟨1000 * (a.toNat - 48) + 100 * (b.toNat - 48) + 10 * (c.toNat - 48) + (d.toNat - 48), by omega, by omega, ?_, ?_⟩
      · show (if _ then _ else _) = _
        rw [h1, h2, h3, h4]; rfl
      · generalize hn : 1000 * (a.toNat - 48) + 100 * (b.toNat - 48) + 10 * (c.toNat - 48) + (d.toNat - 48) = n
        have back : ∀ (x : UInt8) (k : Nat), 48 + k = x.toNat → UInt8.ofNat (48 + k) = x := fun x k hk => by
          rw [hk]; simp
        show _ = [46, 71, _, _, _, _, 86, 48, 48]
        rw [back a (n / 1000) (by omega), back b (n / 100 % 10) (by omega), back c (n / 10 % 10) (by omega), back d (n % 10) (by omega)]
    · exact absurd rfl h
  · exact absurd rfl h
theorem numS_form (base name : Bs) (h : numS base name ≠ 0) : 1 ≤ numS base name ∧ numS base name ≤ 9999 ∧ name = genName base (numS base name) := by
  unfold numS at h ⊢
  by_cases hb : name.take base.length = base
  · rw [if_pos hb] at h ⊢
    obtain ⟨n, h1, h2, h3, h4⟩ := tailN_form _ h
    rw [h3]
    refine ⟨h1, h2, ?_⟩
    unfold genName
    rw [List.append_assoc, List.append_assoc, ← List.append_assoc [46, 71], ← h4]
    conv => lhs; rw [← List.take_append_drop base.length name, hb]
  · rw [if_neg hb] at h; exact absurd rfl h
theorem numS_len (base name : Bs) (h : numS base name ≠ 0) : name.length = base.length + 9 := by
  obtain ⟨_, _, h3⟩ := numS_form base name h
  rw [h3]; simp [genName, dig4]

end Go.Proofs.YtldkmclfhjcicaaGreatDoor

/- Layer 27 in plain Lean: names and numbers as the two texts reckon them; no program in sight. -/
namespace Go.Proofs.YtldkmclfhjcicaaGreatDoor
set_option linter.unusedVariables false

theorem split_step (s : Bs) (f i : Nat) (hf : f ≤ i) (hn : ∀ j, f ≤ j → j < i → s[j]? ≠ some 46) (hi : s[i]? = some 46) :
    splitAtC 46 (s.drop f) = (s.drop f).take (i - f) :: splitAtC 46 (s.drop (i + 1)) := by
  have hil : i < s.length := (List.getElem?_eq_some_iff.1 hi).1
  have e : s.drop f = (s.drop f).take (i - f) ++ 46 :: s.drop (i + 1) := by
    conv => lhs; rw [← List.take_append_drop (i - f) (s.drop f)]
    rw [List.drop_drop, (by omega : f + (i - f) = i)]
    congr 1
    rw [List.drop_eq_getElem_cons hil, (List.getElem?_eq_some_iff.1 hi).2]
  conv => lhs; rw [e]
  refine splitAtC_cons 46 _ _ (fun c hc q => ?_)
  subst q
  obtain ⟨j, hj, he⟩ := List.getElem_of_mem hc
  have hj2 : j < i - f := by rw [List.length_take] at hj; omega
  refine hn (f + j) (by omega) (by omega) ?_
  have h3 : ((s.drop f).take (i - f))[j]? = some 46 := by rw [List.getElem?_eq_getElem hj, he]
  rw [List.getElem?_take_of_lt hj2, List.getElem?_drop] at h3
  exact h3
theorem split_last (s : Bs) (f : Nat) (hn : ∀ j, f ≤ j → j < s.length → s[j]? ≠ some 46) : splitAtC 46 (s.drop f) = [s.drop f] := by
  refine splitAtC_last 46 _ (fun c hc q => ?_)
  subst q
  obtain ⟨j, hj, he⟩ := List.getElem_of_mem hc
  have hj2 : f + j < s.length := by rw [List.length_drop] at hj; omega
  refine hn (f + j) (by omega) hj2 ?_
  have h3 : (s.drop f)[j]? = some 46 := by rw [List.getElem?_eq_getElem hj, he]
  rw [List.getElem?_drop] at h3
  exact h3
def valD (a b c d : UInt8) : Nat := 1000 * (a.toNat - 48) + 100 * (b.toNat - 48) + 10 * (c.toNat - 48) + (d.toNat - 48)
theorem nine (s : Bs) (h : s.length = 9) : ∃ a b c d e f g i j, s = [a, b, c, d, e, f, g, i, j] := by
  match s, h with
  | [a, b, c, d, e, f, g, i, j], _ => exact ⟨a, b, c, d, e, f, g, i, j, rfl⟩
theorem tailN_nine (p q a b c d x y z : UInt8) : tailN [p, q, a, b, c, d, x, y, z] =
    if (digC a && digC b && digC c && digC d) = true ∧ p = 46 ∧ q = 71 ∧ x = 86 ∧ y = 48 ∧ z = 48 then valD a b c d else 0 := by
  by_cases h : p = 46 ∧ q = 71 ∧ x = 86 ∧ y = 48 ∧ z = 48
  · obtain ⟨rfl, rfl, rfl, rfl, rfl⟩ := h
    show (if _ then _ else _) = _
    by_cases hd : (digC a && digC b && digC c && digC d) = true
    · rw [if_pos hd, if_pos ⟨hd, rfl, rfl, rfl, rfl, rfl⟩]; rfl
    · rw [if_neg hd, if_neg (fun r => hd r.1)]
  · rw [if_neg (fun r => h r.2)]
    by_cases h0 : tailN [p, q, a, b, c, d, x, y, z] = 0
    · exact h0
    · obtain ⟨n, _, _, _, he⟩ := tailN_form _ h0
      unfold dig4 at he
      simp only [List.cons_append, List.nil_append, List.cons.injEq] at he
      exact absurd ⟨he.1, he.2.1, he.2.2.2.2.2.2.1, he.2.2.2.2.2.2.2.1, he.2.2.2.2.2.2.2.2.1⟩ h
theorem numS_cut (base name : Bs) : numS base name = if (base ++ [46, 71]) <+: name then
    (match name.drop (base.length + 2) with
      | [a, b, c, d, x, y, z] => if (digC a && digC b && digC c && digC d) = true ∧ x = 86 ∧ y = 48 ∧ z = 48 then valD a b c d else 0
      | _ => 0) else 0 := by
  by_cases hp : (base ++ [46, 71]) <+: name
  · rw [if_pos hp]
    obtain ⟨t, rfl⟩ := hp
    have e1 : (base ++ [46, 71] ++ t).drop (base.length + 2) = t := by rw [List.drop_left' (by simp)]
    have e2 : (base ++ [46, 71] ++ t).take base.length = base := by rw [List.append_assoc, List.take_left' rfl]
    have e3 : (base ++ [46, 71] ++ t).drop base.length = 46 :: 71 :: t := by rw [List.append_assoc, List.drop_left' rfl]; rfl
    rw [e1, numS, if_pos e2, e3]
    have hz : t.length ≠ 7 → tailN (46 :: 71 :: t) = 0 := fun hl => by
      by_cases h0 : tailN (46 :: 71 :: t) = 0
      · exact h0
      · obtain ⟨n, _, _, _, he⟩ := tailN_form _ h0
        have := congrArg List.length he
        unfold dig4 at this; simp at this; omega
    match t, hz with
    | [], hz => exact hz (by simp)
    | [_], hz => exact hz (by simp)
    | [_, _], hz => exact hz (by simp)
    | [_, _, _], hz => exact hz (by simp)
    | [_, _, _, _], hz => exact hz (by simp)
    | [_, _, _, _, _], hz => exact hz (by simp)
    | [_, _, _, _, _, _], hz => exact hz (by simp)
    | [a, b, c, d, x, y, z], hz =>
      rw [tailN_nine]
      dsimp only
      by_cases hd : (digC a && digC b && digC c && digC d) = true ∧ x = 86 ∧ y = 48 ∧ z = 48
      · rw [if_pos hd, if_pos ⟨hd.1, rfl, rfl, hd.2⟩]
      · rw [if_neg hd, if_neg (fun r => hd ⟨r.1, r.2.2.2⟩)]
    | a :: b :: c :: d :: x :: y :: z :: u :: v, hz => exact hz (by simp)
  · rw [if_neg hp]
    by_cases h0 : numS base name = 0
    · exact h0
    · obtain ⟨_, _, he⟩ := numS_form base name h0
      refine absurd ?_ hp
      rw [he]; unfold genName
      exact ⟨dig4 (numS base name) ++ [86, 48, 48], by simp⟩

end Go.Proofs.YtldkmclfhjcicaaGreatDoor

/- Layer 27 in plain Lean: catalogs, their order, and the calls; no program in sight. -/
namespace Go.Proofs.YtldkmclfhjcicaaGreatDoor
set_option linter.unusedVariables false

structure Ent where
  name : Bs
  unit : Int
  serial : Bs
  file : Int
deriving DecidableEq, Inhabited
structure Grp where
  base : Bs
  limit : Int
deriving DecidableEq, Inhabited
structure Cat where
  es : List Ent
  gs : List Grp
deriving DecidableEq, Inhabited

def entOk (e : Ent) : Bool := nameOk e.name && (decide (1 ≤ e.serial.length) && decide (e.serial.length ≤ 6) && e.serial.all capC) &&
  (decide (e.unit = 5) && decide (e.file = 0) || decide (e.unit = 4) && decide (1 ≤ e.file) && decide (e.file ≤ 4096))
def grpOk (g : Grp) : Bool := nameOk g.base && decide (g.base.length ≤ 35) && decide (1 ≤ g.limit) && decide (g.limit ≤ 255)
def asc : List Bs → Bool
  | [] => true
  | [_] => true
  | x :: y :: t => decide (x < y) && asc (y :: t)
theorem asc_tail {x : Bs} {t : List Bs} (h : asc (x :: t) = true) : asc t = true := by
  cases t with
  | nil => rfl
  | cons y t => simp only [asc, Bool.and_eq_true] at h; exact h.2
theorem asc_head : ∀ {t : List Bs} {x : Bs}, asc (x :: t) = true → ∀ y ∈ t, x < y
  | [], _, _, _, hy => by cases hy
  | z :: t, x, h, y, hy => by
    simp only [asc, Bool.and_eq_true, decide_eq_true_eq] at h
    rcases List.mem_cons.1 hy with rfl | hy
    · exact h.1
    · exact List.lt_trans h.1 (asc_head h.2 y hy)
theorem asc_cons {x : Bs} {t : List Bs} (h : asc t = true) (hx : ∀ y ∈ t, x < y) : asc (x :: t) = true := by
  cases t with
  | nil => rfl
  | cons y t => simp only [asc, Bool.and_eq_true, decide_eq_true_eq]; exact ⟨hx y List.mem_cons_self, h⟩
theorem lt_ne {x y : Bs} (h : x < y) : x ≠ y := fun e => by subst e; exact List.lt_irrefl x h
theorem lt_asymm' {x y : Bs} (h : x < y) : ¬ y < x := fun g => List.lt_irrefl x (List.lt_trans h g)
theorem lt_or {x y : Bs} (h : ¬ x < y) (g : x ≠ y) : y < x := by
  by_cases k : y < x
  · exact k
  · exact absurd (List.le_antisymm (List.not_lt.1 k) (List.not_lt.1 h)) g
theorem asc_sub : ∀ {l m : List Bs}, l.Sublist m → asc m = true → asc l = true
  | _, _, .slnil, _ => rfl
  | _, _, .cons a h, hm => asc_sub h (asc_tail hm)
  | _, _, .cons_cons a h, hm => asc_cons (asc_sub h (asc_tail hm)) (fun y hy => asc_head hm y (h.subset hy))

def lbS : List Bs → Bs → Nat
  | [], _ => 0
  | x :: t, n => if x < n then lbS t n + 1 else 0
theorem lbS_le : ∀ (l : List Bs) (n : Bs), lbS l n ≤ l.length
  | [], _ => Nat.le_refl _
  | x :: t, n => by
    unfold lbS
    split
    · have := lbS_le t n; simp only [List.length_cons]; omega
    · omega
theorem lbS_lt : ∀ (l : List Bs) (n : Bs) (i : Nat), i < lbS l n → ∃ x, l[i]? = some x ∧ x < n
  | [], _, i, h => by simp [lbS] at h
  | x :: t, n, i, h => by
    unfold lbS at h
    split at h
    · rename_i hx
      cases i with
      | zero => exact ⟨x, rfl, hx⟩
      | succ i => obtain ⟨y, h1, h2⟩ := lbS_lt t n i (by omega); exact ⟨y, by simpa using h1, h2⟩
    · omega
theorem lbS_ge : ∀ (l : List Bs) (n : Bs) (i : Nat) (x : Bs), asc l = true → lbS l n ≤ i → l[i]? = some x → ¬ x < n
  | [], _, i, x, _, _, hx => by simp at hx
  | y :: t, n, i, x, h, hi, hx => by
    unfold lbS at hi
    split at hi
    · cases i with
      | zero => omega
      | succ i => exact lbS_ge t n i x (asc_tail h) (by omega) (by simpa using hx)
    · rename_i hy
      cases i with
      | zero => have : x = y := by simpa using hx.symm
                subst this; exact hy
      | succ i =>
        intro hlt
        exact hy (List.lt_trans (asc_head h x (List.mem_of_getElem? (by simpa using hx))) hlt)
theorem lbS_mem (l : List Bs) (n : Bs) (h : asc l = true) : l[lbS l n]? = some n ↔ n ∈ l := by
  constructor
  · exact fun g => List.mem_of_getElem? g
  · intro g
    obtain ⟨i, hi, he⟩ := List.getElem_of_mem g
    have hn : l[i]? = some n := by rw [List.getElem?_eq_getElem hi, he]
    rcases Nat.lt_trichotomy i (lbS l n) with k | k | k
    · obtain ⟨x, hx, hlt⟩ := lbS_lt l n i k
      rw [hn] at hx; cases hx; exact absurd hlt (List.lt_irrefl _)
    · rw [← k]; exact hn
    · have hk : lbS l n < l.length := by omega
      have hge := lbS_ge l n (lbS l n) l[lbS l n] h (Nat.le_refl _) (List.getElem?_eq_getElem hk)
      have hp : ∀ (l : List Bs) (a b : Nat) (x y : Bs), asc l = true → a < b → l[a]? = some x → l[b]? = some y → x < y := by
        intro l
        induction l with
        | nil => intro a b x y _ _ hx; simp at hx
        | cons z t ih =>
          intro a b x y ha hab hx hy
          cases b with
          | zero => omega
          | succ b =>
            cases a with
            | zero => have : z = x := by simpa using hx
                      subst this; exact asc_head ha y (List.mem_of_getElem? (by simpa using hy))
            | succ a => exact ih a b x y (asc_tail ha) (by omega) (by simpa using hx) (by simpa using hy)
      exact absurd (hp l (lbS l n) i _ n h k (List.getElem?_eq_getElem hk) hn) hge

def insE (e : Ent) : List Ent → List Ent
  | [] => [e]
  | x :: t => if e.name < x.name then e :: x :: t else x :: insE e t
def insG (g : Grp) : List Grp → List Grp
  | [] => [g]
  | x :: t => if g.base < x.base then g :: x :: t else x :: insG g t
theorem insE_at (e : Ent) : ∀ (l : List Ent), asc (l.map (·.name)) = true → e.name ∉ l.map (·.name) →
    insE e l = l.take (lbS (l.map (·.name)) e.name) ++ e :: l.drop (lbS (l.map (·.name)) e.name)
  | [], _, _ => rfl
  | x :: t, h, hn => by
    rw [List.map_cons] at h hn
    have hne : x.name ≠ e.name := fun g => hn (by rw [g]; exact List.mem_cons_self)
    unfold insE
    rw [List.map_cons, lbS]
    by_cases hx : x.name < e.name
    · rw [if_neg (lt_asymm' hx), if_pos hx, insE_at e t (asc_tail h) (fun g => hn (List.mem_cons_of_mem _ g))]
      rfl
    · rw [if_pos (lt_or hx hne), if_neg hx]; rfl
theorem insG_at (e : Grp) : ∀ (l : List Grp), asc (l.map (·.base)) = true → e.base ∉ l.map (·.base) →
    insG e l = l.take (lbS (l.map (·.base)) e.base) ++ e :: l.drop (lbS (l.map (·.base)) e.base)
  | [], _, _ => rfl
  | x :: t, h, hn => by
    rw [List.map_cons] at h hn
    have hne : x.base ≠ e.base := fun g => hn (by rw [g]; exact List.mem_cons_self)
    unfold insG
    rw [List.map_cons, lbS]
    by_cases hx : x.base < e.base
    · rw [if_neg (lt_asymm' hx), if_pos hx, insG_at e t (asc_tail h) (fun g => hn (List.mem_cons_of_mem _ g))]
      rfl
    · rw [if_pos (lt_or hx hne), if_neg hx]; rfl

def gensS (es : List Ent) (b : Bs) : List Ent := es.filter fun e => decide (0 < numS b e.name)
def numsS (es : List Ent) (b : Bs) : List Nat := (gensS es b).map fun e => numS b e.name
def namesS (es : List Ent) : List Bs := es.map (·.name)
def basesS (gs : List Grp) : List Bs := gs.map (·.base)
def validC (c : Cat) : Bool := decide (c.es.length ≤ 256) && decide (c.gs.length ≤ 32) && (c.es.all entOk && asc (namesS c.es)) &&
  (c.gs.all (fun g => grpOk g && !((namesS c.es).contains g.base) && decide (((gensS c.es g.base).length : Int) ≤ g.limit)) && asc (basesS c.gs))
def addC (c : Cat) (e : Ent) : Cat × List Ent × Int :=
  if !(validC c && entOk e) then (⟨[], []⟩, [], 1)
  else if e.name ∈ namesS c.es ∨ e.name ∈ basesS c.gs then (⟨[], []⟩, [], 4)
  else match c.gs.find? (fun g => decide (0 < numS g.base e.name)) with
    | none => if (c.es.length + 1 > 256) then (⟨[], []⟩, [], 7) else (⟨insE e c.es, c.gs⟩, [], 0)
    | some g =>
      if decide ((numsS c.es g.base).getLastD 0 ≥ numS g.base e.name) then (⟨[], []⟩, [], 6)
      else if ((gensS c.es g.base).length : Int) = g.limit then
        (⟨(insE e c.es).filter (fun x => x.name ≠ ((gensS c.es g.base).headD default).name), c.gs⟩, [(gensS c.es g.base).headD default], 0)
      else if (c.es.length + 1 > 256) then (⟨[], []⟩, [], 7) else (⟨insE e c.es, c.gs⟩, [], 0)
def removeC (c : Cat) (n : Bs) : Cat × Int :=
  if !(validC c) then (⟨[], []⟩, 1) else if n ∈ namesS c.es then (⟨c.es.filter (fun e => e.name ≠ n), c.gs⟩, 0) else (⟨[], []⟩, 3)
def defineC (c : Cat) (n : Bs) (limit : Int) : Cat × Int :=
  if !(validC c && grpOk ⟨n, limit⟩) then (⟨[], []⟩, 1)
  else if n ∈ namesS c.es ∨ n ∈ basesS c.gs then (⟨[], []⟩, 4)
  else if ((gensS c.es n).length : Int) > limit then (⟨[], []⟩, 6)
  else if c.gs.length ≥ 32 then (⟨[], []⟩, 7)
  else (⟨c.es, insG ⟨n, limit⟩ c.gs⟩, 0)
def resolveC (c : Cat) (n : Bs) (rel : Int) : Bs × Int :=
  if !(validC c) then ([], 1)
  else if n ∉ basesS c.gs then ([], 3)
  else if 0 < rel then (if rel > 9999 - ((numsS c.es n).getLastD 0 : Int) then ([], 6) else (genName n (((numsS c.es n).getLastD 0 : Int) + rel).toNat, 0))
  else if rel ≤ -((gensS c.es n).length : Int) then ([], 3)
  else (((gensS c.es n).getD (((gensS c.es n).length : Int) - 1 + rel).toNat default).name, 0)

end Go.Proofs.YtldkmclfhjcicaaGreatDoor

/- Layer 27 in plain Lean: the bytes of a catalog, both ways; no program in sight. -/
namespace Go.Proofs.YtldkmclfhjcicaaGreatDoor
set_option linter.unusedVariables false

def byteI (n : Int) : UInt8 := UInt8.ofNat (n % 256).toNat
def twoB (n : Int) : Bs := [byteI (n / 256), byteI n]
def encEnt (e : Ent) : Bs := [byteI e.name.length] ++ e.name ++ [byteI e.unit, byteI e.serial.length] ++ e.serial ++ twoB e.file
def encGrp (g : Grp) : Bs := [byteI g.base.length] ++ g.base ++ [byteI g.limit]
def encC (c : Cat) : Bs := twoB c.es.length ++ c.es.flatMap encEnt ++ twoB c.gs.length ++ c.gs.flatMap encGrp

def p1 : Bs → Option (Nat × Bs)
  | [] => none
  | x :: t => some (x.toNat, t)
def p2 : Bs → Option (Nat × Bs)
  | a :: b :: t => some (256 * a.toNat + b.toNat, t)
  | _ => none
def pN (n : Nat) (b : Bs) : Option (Bs × Bs) := if n ≤ b.length then some (b.take n, b.drop n) else none
def pT (b : Bs) : Option (Bs × Bs) := match p1 b with
  | none => none
  | some (n, t) => pN n t
def pEnt (b : Bs) : Option (Ent × Bs) := match pT b with
  | none => none
  | some (nm, t1) => match p1 t1 with
    | none => none
    | some (u, t2) => match pT t2 with
      | none => none
      | some (sr, t3) => match p2 t3 with
        | none => none
        | some (f, t4) => some (⟨nm, u, sr, f⟩, t4)
def pGrp (b : Bs) : Option (Grp × Bs) := match pT b with
  | none => none
  | some (nm, t1) => match p1 t1 with
    | none => none
    | some (l, t2) => some (⟨nm, l⟩, t2)
def pEnts : Nat → Bs → Option (List Ent × Bs)
  | 0, b => some ([], b)
  | n + 1, b => match pEnt b with
    | none => none
    | some (e, t) => match pEnts n t with
      | none => none
      | some (l, t2) => some (e :: l, t2)
def pGrps : Nat → Bs → Option (List Grp × Bs)
  | 0, b => some ([], b)
  | n + 1, b => match pGrp b with
    | none => none
    | some (e, t) => match pGrps n t with
      | none => none
      | some (l, t2) => some (e :: l, t2)
def pCat (b : Bs) : Option Cat := match p2 b with
  | none => none
  | some (n, t) => match pEnts n t with
    | none => none
    | some (es, t1) => match p2 t1 with
      | none => none
      | some (m, t2) => match pGrps m t2 with
        | none => none
        | some (gs, t3) => if t3 = [] then some ⟨es, gs⟩ else none
def decC (b : Bs) : Cat × Int := match pCat b with
  | none => (⟨[], []⟩, 5)
  | some c => if validC c then (c, 0) else (⟨[], []⟩, 5)

theorem entOk_cases {e : Ent} (h : entOk e = true) : e.name.length ≤ 44 ∧ 1 ≤ e.name.length ∧ e.serial.length ≤ 6 ∧ (e.unit = 5 ∧ e.file = 0 ∨ e.unit = 4 ∧ 1 ≤ e.file ∧ e.file ≤ 4096) := by
  unfold entOk nameOk at h
  simp only [Bool.and_eq_true, Bool.or_eq_true, decide_eq_true_eq] at h
  refine ⟨h.1.1.1, ?_, h.1.2.1.2, h.2.imp id (fun g => ⟨g.1.1, g.1.2, g.2⟩)⟩
  cases hn : e.name with
  | nil => rw [hn] at h; have := h.1.1.2; simp [splitAtC, partOk] at this
  | cons c t => simp
theorem validC_all {c : Cat} (h : validC c = true) : c.es.length ≤ 256 ∧ c.gs.length ≤ 32 ∧ c.es.all entOk = true ∧ asc (namesS c.es) = true ∧ c.gs.all grpOk = true ∧ asc (basesS c.gs) = true ∧
    (∀ g ∈ c.gs, g.base ∉ namesS c.es ∧ ((gensS c.es g.base).length : Int) ≤ g.limit) := by
  unfold validC at h
  simp only [Bool.and_eq_true, decide_eq_true_eq, List.all_eq_true, Bool.not_eq_true', List.contains_eq_mem, decide_eq_false_iff_not] at h
  obtain ⟨⟨⟨h1, h2⟩, h3, h4⟩, h5, h6⟩ := h
  exact ⟨h1, h2, List.all_eq_true.2 h3, h4, List.all_eq_true.2 (fun g hg => (h5 g hg).1.1), h6, fun g hg => ⟨(h5 g hg).1.2, (h5 g hg).2⟩⟩
end Go.Proofs.YtldkmclfhjcicaaGreatDoor

/- Layer 27 in plain Lean: the order of generations, and what the calls keep; no program in sight. -/
namespace Go.Proofs.YtldkmclfhjcicaaGreatDoor
set_option linter.unusedVariables false

theorem numS_base {b n : Bs} (h : numS b n ≠ 0) : b = n.take (n.length - 9) := by
  have h1 := numS_len b n h
  obtain ⟨_, _, h3⟩ := numS_form b n h
  have h4 : n.length - 9 = b.length := by omega
  rw [h4, h3]; unfold genName; rw [List.append_assoc, List.append_assoc, List.take_left' rfl]
theorem append_lt : ∀ (b x y : Bs), b ++ x < b ++ y ↔ x < y
  | [], _, _ => Iff.rfl
  | c :: b, x, y => by
    rw [List.cons_append, List.cons_append, List.cons_lt_cons_iff, append_lt b x y]
    constructor
    · rintro (h | h)
      · exact absurd h (by simp)
      · exact h.2
    · exact fun h => .inr ⟨rfl, h⟩
theorem dig_lt (a b : Nat) (ha : a < 10) (hb : b < 10) : UInt8.ofNat (48 + a) < UInt8.ofNat (48 + b) ↔ a < b := by
  rw [UInt8.lt_iff_toNat_lt, UInt8.toNat_ofNat', UInt8.toNat_ofNat']; omega
theorem dig_eq (a b : Nat) (ha : a < 10) (hb : b < 10) : UInt8.ofNat (48 + a) = UInt8.ofNat (48 + b) ↔ a = b := by
  rw [← UInt8.toNat_inj, UInt8.toNat_ofNat', UInt8.toNat_ofNat']; omega
theorem genName_lt (b : Bs) (n m : Nat) (hn : n ≤ 9999) (hm : m ≤ 9999) : genName b n < genName b m ↔ n < m := by
  unfold genName
  rw [List.append_assoc, List.append_assoc, List.append_assoc, List.append_assoc, append_lt, append_lt]
  unfold dig4
  simp only [List.cons_append, List.nil_append, List.cons_lt_cons_iff, List.lt_irrefl, and_false, or_false]
  rw [dig_lt _ _ (by omega) (by omega), dig_lt _ _ (by omega) (by omega), dig_lt _ _ (by omega) (by omega), dig_lt _ _ (by omega) (by omega),
    dig_eq _ _ (by omega) (by omega), dig_eq _ _ (by omega) (by omega), dig_eq _ _ (by omega) (by omega)]
  omega
theorem numS_lt {b x y : Bs} (hx : numS b x ≠ 0) (hy : numS b y ≠ 0) : x < y ↔ numS b x < numS b y := by
  obtain ⟨_, a2, a3⟩ := numS_form b x hx
  obtain ⟨_, c2, c3⟩ := numS_form b y hy
  conv => lhs; rw [a3, c3]
  exact genName_lt b _ _ a2 c2
theorem mem_gensS {es : List Ent} {b : Bs} {e : Ent} : e ∈ gensS es b ↔ e ∈ es ∧ 0 < numS b e.name := by
  unfold gensS; simp
theorem asc_gens {es : List Ent} (b : Bs) (h : asc (namesS es) = true) : asc (namesS (gensS es b)) = true :=
  asc_sub (List.Sublist.map _ List.filter_sublist) h

theorem asc_last : ∀ (l : List Ent) (b : Bs), asc (namesS l) = true → (∀ e ∈ l, 0 < numS b e.name) → ∀ e ∈ l, numS b e.name ≤ (l.map fun e => numS b e.name).getLastD 0
  | [], _, _, _, _, h => by cases h
  | [x], b, _, _, e, h => by cases List.mem_singleton.1 h; simp
  | x :: y :: t, b, h, hp, e, he => by
    have ih := asc_last (y :: t) b (asc_tail h) (fun e he => hp e (List.mem_cons_of_mem _ he))
    have hl : ((x :: y :: t).map fun e => numS b e.name).getLastD 0 = ((y :: t).map fun e => numS b e.name).getLastD 0 := by simp [List.getLastD]
    rw [hl]
    rcases List.mem_cons.1 he with rfl | he
    · have h1 := ih y List.mem_cons_self
      have h2 : e.name < y.name := asc_head h y.name List.mem_cons_self
      have h3 := (numS_lt (b := b) (by have := hp e List.mem_cons_self; omega) (by have := hp y (by simp); omega)).1 h2
      omega
    · exact ih e he
theorem newest_le {es : List Ent} {b : Bs} (h : asc (namesS es) = true) {e : Ent} (he : e ∈ gensS es b) : numS b e.name ≤ (numsS es b).getLastD 0 :=
  asc_last (gensS es b) b (asc_gens b h) (fun e he => (mem_gensS.1 he).2) e he
theorem newest_mem (es : List Ent) (b : Bs) : (numsS es b).getLastD 0 = 0 ∧ gensS es b = [] ∨ ∃ e ∈ gensS es b, numS b e.name = (numsS es b).getLastD 0 := by
  unfold numsS
  cases hg : gensS es b with
  | nil => exact .inl ⟨rfl, rfl⟩
  | cons x t =>
    refine .inr ⟨(x :: t).getLast (by simp), List.getLast_mem _, ?_⟩
    rw [List.getLastD_eq_getLast?, List.getLast?_map, List.getLast?_eq_some_getLast (by simp)]
    rfl
theorem newest_max (es : List Ent) (b : Bs) : (numsS es b).getLastD 0 ≤ 9999 := by
  rcases newest_mem es b with h | ⟨e, he, h⟩
  · omega
  · have := (mem_gensS.1 he).2
    have := (numS_form b e.name (by omega)).2.1
    omega

/-! an entry more -/
theorem mem_insE (e : Ent) : ∀ (l : List Ent) (x : Ent), x ∈ insE e l ↔ x = e ∨ x ∈ l
  | [], x => by simp [insE]
  | y :: t, x => by
    unfold insE
    split
    · simp
    · rw [List.mem_cons, mem_insE e t x, List.mem_cons]
      constructor
      · rintro (h | h | h)
        · exact .inr (.inl h)
        · exact .inl h
        · exact .inr (.inr h)
      · rintro (h | h | h)
        · exact .inr (.inl h)
        · exact .inl h
        · exact .inr (.inr h)
theorem length_insE (e : Ent) : ∀ l, (insE e l).length = l.length + 1
  | [] => rfl
  | y :: t => by
    unfold insE
    split
    · rfl
    · rw [List.length_cons, length_insE e t, List.length_cons]
theorem asc_insE (e : Ent) : ∀ l, asc (namesS l) = true → e.name ∉ namesS l → asc (namesS (insE e l)) = true
  | [], _, _ => rfl
  | y :: t, h, hn => by
    have hne : y.name ≠ e.name := fun g => hn (by rw [← g]; exact List.mem_cons_self)
    unfold insE
    split
    · rename_i hlt
      refine asc_cons h (fun z hz => ?_)
      rcases List.mem_cons.1 hz with rfl | hz
      · exact hlt
      · exact List.lt_trans hlt (asc_head h z hz)
    · rename_i hlt
      refine asc_cons (asc_insE e t (asc_tail h) (fun g => hn (List.mem_cons_of_mem _ g))) (fun z hz => ?_)
      obtain ⟨x, hx, rfl⟩ := List.mem_map.1 hz
      rcases (mem_insE e t x).1 hx with rfl | hx
      · exact lt_or hlt (Ne.symm hne)
      · exact asc_head h _ (List.mem_map_of_mem hx)
theorem insE_last (e : Ent) : ∀ l : List Ent, (∀ x ∈ l, x.name < e.name) → insE e l = l ++ [e]
  | [], _ => rfl
  | y :: t, h => by
    unfold insE
    rw [if_neg (lt_asymm' (h y List.mem_cons_self)), insE_last e t (fun x hx => h x (List.mem_cons_of_mem _ hx))]; rfl
theorem filter_insE_no (p : Ent → Bool) (e : Ent) (hp : p e = false) : ∀ l, (insE e l).filter p = l.filter p
  | [] => by simp [insE, hp]
  | y :: t => by
    unfold insE
    split
    · rw [List.filter_cons_of_neg (by rw [hp]; simp)]
    · by_cases hy : p y = true
      · rw [List.filter_cons_of_pos hy, filter_insE_no p e hp t, List.filter_cons_of_pos hy]
      · rw [List.filter_cons_of_neg hy, filter_insE_no p e hp t, List.filter_cons_of_neg hy]
theorem insE_all_lt (e : Ent) : ∀ l : List Ent, (∀ x ∈ l, e.name < x.name) → insE e l = e :: l
  | [], _ => rfl
  | y :: t, h => by unfold insE; rw [if_pos (h y List.mem_cons_self)]
theorem filter_insE_yes (p : Ent → Bool) (e : Ent) (hp : p e = true) : ∀ l, asc (namesS l) = true → (insE e l).filter p = insE e (l.filter p)
  | [], _ => by simp [insE, hp]
  | y :: t, h => by
    have ih := filter_insE_yes p e hp t (asc_tail h)
    have e0 : insE e (y :: t) = if e.name < y.name then e :: y :: t else y :: insE e t := rfl
    rw [e0]
    split
    · rename_i hlt
      rw [List.filter_cons_of_pos hp, insE_all_lt e]
      intro x hx
      have := (List.mem_filter.1 hx).1
      rcases List.mem_cons.1 this with rfl | hm
      · exact hlt
      · exact List.lt_trans hlt (asc_head h _ (List.mem_map_of_mem hm))
    · rename_i hlt
      by_cases hy : p y = true
      · rw [List.filter_cons_of_pos hy, List.filter_cons_of_pos hy, ih, insE, if_neg hlt]
      · rw [List.filter_cons_of_neg hy, List.filter_cons_of_neg hy, ih]
theorem gens_insE_no {es : List Ent} {b : Bs} {e : Ent} (h : numS b e.name = 0) : gensS (insE e es) b = gensS es b :=
  filter_insE_no _ e (by simp [h]) es
theorem gens_insE_yes {es : List Ent} {b : Bs} {e : Ent} (ha : asc (namesS es) = true) (h : numS b e.name ≠ 0) : gensS (insE e es) b = insE e (gensS es b) :=
  filter_insE_yes _ e (by simp; omega) es ha
theorem gens_newer {es : List Ent} {b : Bs} {e : Ent} (ha : asc (namesS es) = true) (h : (numsS es b).getLastD 0 < numS b e.name) : gensS (insE e es) b = gensS es b ++ [e] := by
  rw [gens_insE_yes ha (by omega)]
  refine insE_last e _ (fun x hx => ?_)
  have h1 := newest_le ha hx
  have h2 := (mem_gensS.1 hx).2
  exact (numS_lt (b := b) (by omega) (by omega)).2 (by omega)

/-! an entry less -/
def dropE (n : Bs) (l : List Ent) : List Ent := l.filter fun x => x.name ≠ n
theorem mem_dropE {n : Bs} {l : List Ent} {x : Ent} : x ∈ dropE n l ↔ x ∈ l ∧ x.name ≠ n := by unfold dropE; simp
theorem asc_dropE (n : Bs) {l : List Ent} (h : asc (namesS l) = true) : asc (namesS (dropE n l)) = true := asc_sub (List.Sublist.map _ List.filter_sublist) h
theorem dropE_idx : ∀ (l : List Ent) (i : Nat) (x : Ent), asc (namesS l) = true → l[i]? = some x → l.eraseIdx i = dropE x.name l
  | [], i, x, _, hx => by simp at hx
  | y :: t, i, x, h, hx => by
    cases i with
    | zero =>
      obtain rfl : y = x := by simpa using hx
      unfold dropE
      rw [List.filter_cons_of_neg (by simp), List.eraseIdx_cons_zero]
      symm
      refine List.filter_eq_self.2 (fun z hz => ?_)
      have := lt_ne (asc_head h z.name (List.mem_map_of_mem hz))
      simpa using fun g => this g.symm
    | succ i =>
      have hx' : t[i]? = some x := by simpa using hx
      have := lt_ne (asc_head h x.name (List.mem_map_of_mem (List.mem_of_getElem? hx')))
      unfold dropE
      rw [List.filter_cons_of_pos (by simpa using this), List.eraseIdx_cons_succ, dropE_idx t i x (asc_tail h) hx']; rfl
theorem gens_dropE (n b : Bs) (l : List Ent) : gensS (dropE n l) b = dropE n (gensS l b) := by
  unfold gensS dropE
  rw [List.filter_filter, List.filter_filter]
  congr 1
  funext x
  exact Bool.and_comm _ _
theorem numS_one {b c n : Bs} (hb : numS b n ≠ 0) (hc : numS c n ≠ 0) : b = c := by rw [numS_base hb, ← numS_base hc]

end Go.Proofs.YtldkmclfhjcicaaGreatDoor

/- Layer 27 in plain Lean: what Add, Remove and Define keep; no program in sight. -/
namespace Go.Proofs.YtldkmclfhjcicaaGreatDoor
set_option linter.unusedVariables false

theorem asc_grp : ∀ {l : List Grp}, asc (basesS l) = true → ∀ {g h : Grp}, g ∈ l → h ∈ l → g.base = h.base → g = h
  | [], _, _, _, hg, _, _ => by cases hg
  | x :: t, ha, g, h, hg, hh, e => by
    have k : ∀ y ∈ t, x.base < y.base := fun y hy => asc_head ha y.base (List.mem_map_of_mem hy)
    rcases List.mem_cons.1 hg with rfl | hg2
    · rcases List.mem_cons.1 hh with rfl | hh2
      · rfl
      · exact absurd e (lt_ne (k h hh2))
    · rcases List.mem_cons.1 hh with rfl | hh2
      · exact absurd e.symm (lt_ne (k g hg2))
      · exact asc_grp (asc_tail ha) hg2 hh2 e
theorem asc_ent : ∀ {l : List Ent}, asc (namesS l) = true → ∀ {g h : Ent}, g ∈ l → h ∈ l → g.name = h.name → g = h
  | [], _, _, _, hg, _, _ => by cases hg
  | x :: t, ha, g, h, hg, hh, e => by
    have k : ∀ y ∈ t, x.name < y.name := fun y hy => asc_head ha y.name (List.mem_map_of_mem hy)
    rcases List.mem_cons.1 hg with rfl | hg2
    · rcases List.mem_cons.1 hh with rfl | hh2
      · rfl
      · exact absurd e (lt_ne (k h hh2))
    · rcases List.mem_cons.1 hh with rfl | hh2
      · exact absurd e.symm (lt_ne (k g hg2))
      · exact asc_ent (asc_tail ha) hg2 hh2 e
theorem validC_mk {es : List Ent} {gs : List Grp} (h1 : es.length ≤ 256) (h2 : gs.length ≤ 32) (h3 : ∀ e ∈ es, entOk e = true) (h4 : asc (namesS es) = true) (h5 : ∀ g ∈ gs, grpOk g = true) (h6 : asc (basesS gs) = true)
    (h7 : ∀ g ∈ gs, g.base ∉ namesS es ∧ ((gensS es g.base).length : Int) ≤ g.limit) : validC ⟨es, gs⟩ = true := by
  unfold validC
  simp only [Bool.and_eq_true, decide_eq_true_eq, List.all_eq_true, Bool.not_eq_true', List.contains_eq_mem, decide_eq_false_iff_not]
  exact ⟨⟨⟨h1, h2⟩, h3, h4⟩, fun g hg => ⟨⟨h5 g hg, (h7 g hg).1⟩, (h7 g hg).2⟩, h6⟩
theorem names_insE {e : Ent} {l : List Ent} {n : Bs} : n ∈ namesS (insE e l) ↔ n = e.name ∨ n ∈ namesS l := by
  unfold namesS
  simp only [List.mem_map, mem_insE]
  constructor
  · rintro ⟨x, rfl | hx, rfl⟩
    · exact .inl rfl
    · exact .inr ⟨x, hx, rfl⟩
  · rintro (rfl | ⟨x, hx, rfl⟩)
    · exact ⟨e, .inl rfl, rfl⟩
    · exact ⟨x, .inr hx, rfl⟩
theorem names_dropE {n m : Bs} {l : List Ent} : m ∈ namesS (dropE n l) ↔ m ∈ namesS l ∧ m ≠ n := by
  unfold namesS
  simp only [List.mem_map, mem_dropE]
  constructor
  · rintro ⟨x, ⟨hx, hn⟩, rfl⟩; exact ⟨⟨x, hx, rfl⟩, hn⟩
  · rintro ⟨⟨x, hx, rfl⟩, hn⟩; exact ⟨x, ⟨hx, hn⟩, rfl⟩
theorem length_dropE_le (n : Bs) (l : List Ent) : (dropE n l).length ≤ l.length := List.length_filter_le _ _
theorem length_dropE (n : Bs) : ∀ (l : List Ent), asc (namesS l) = true → n ∈ namesS l → (dropE n l).length + 1 = l.length := by
  intro l ha hn
  obtain ⟨x, hx, rfl⟩ := List.mem_map.1 hn
  obtain ⟨i, hi, he⟩ := List.getElem_of_mem hx
  rw [← dropE_idx l i x ha (by rw [List.getElem?_eq_getElem hi, he]), List.length_eraseIdx_of_lt hi]; omega
theorem addC_ok {c d : Cat} {e : Ent} {gone : List Ent} (h : addC c e = (d, gone, 0)) : validC c = true ∧ entOk e = true ∧ e.name ∉ namesS c.es ∧ e.name ∉ basesS c.gs ∧ d.gs = c.gs ∧
    (gone = [] ∧ d.es = insE e c.es ∧ c.es.length + 1 ≤ 256 ∧ (∀ g ∈ c.gs, numS g.base e.name ≠ 0 → ((gensS c.es g.base).length : Int) < g.limit ∧ (numsS c.es g.base).getLastD 0 < numS g.base e.name) ∨
     ∃ g ∈ c.gs, ∃ old rest, numS g.base e.name ≠ 0 ∧ gensS c.es g.base = old :: rest ∧ gone = [old] ∧ d.es = dropE old.name (insE e c.es) ∧ ((gensS c.es g.base).length : Int) = g.limit ∧ (numsS c.es g.base).getLastD 0 < numS g.base e.name) := by
  unfold addC at h
  by_cases hv : (validC c && entOk e) = true
  · rw [hv] at h
    simp only [Bool.and_eq_true] at hv
    obtain ⟨hv, he⟩ := hv
    obtain ⟨a1, a2, a3, a4, a5, a6, a7⟩ := validC_all hv
    rw [if_neg (by simp)] at h
    by_cases hn : e.name ∈ namesS c.es ∨ e.name ∈ basesS c.gs
    · rw [if_pos hn] at h; simp at h
    · rw [if_neg hn] at h
      have hn1 : e.name ∉ namesS c.es := fun g => hn (.inl g)
      have hn2 : e.name ∉ basesS c.gs := fun g => hn (.inr g)
      refine ⟨hv, he, hn1, hn2, ?_⟩
      split at h
      · rename_i hf
        split at h
        · simp at h
        · rename_i hl
          cases h
          refine ⟨rfl, .inl ⟨rfl, rfl, by omega, fun g hg h0 => ?_⟩⟩
          have := List.find?_eq_none.1 hf g hg
          simp at this; omega
      · rename_i g hf
        have hg : g ∈ c.gs := List.mem_of_find?_eq_some hf
        have hp : 0 < numS g.base e.name := by have := List.find?_some hf; simpa using this
        split at h
        · simp at h
        · rename_i hlast
          have hlast : (numsS c.es g.base).getLastD 0 < numS g.base e.name := by simpa using hlast
          have hsame : ∀ k ∈ c.gs, numS k.base e.name ≠ 0 → k = g := fun k hk h0 => asc_grp a6 hk hg (numS_one h0 (by omega))
          split at h
          · rename_i hlen
            cases h
            have hgl := a5
            have hlim : 1 ≤ g.limit := by
              have := List.all_eq_true.1 a5 g hg
              unfold grpOk at this
              simp only [Bool.and_eq_true, decide_eq_true_eq] at this
              exact this.1.2
            cases hgs : gensS c.es g.base with
            | nil => rw [hgs] at hlen; simp at hlen; omega
            | cons old rest =>
              exact ⟨rfl, .inr ⟨g, hg, old, rest, by omega, hgs, rfl, rfl, hlen, hlast⟩⟩
          · rename_i hlen
            split at h
            · simp at h
            · cases h
              refine ⟨rfl, .inl ⟨rfl, rfl, by omega, fun k hk h0 => ?_⟩⟩
              obtain rfl := hsame k hk h0
              have := (a7 k hk).2
              exact ⟨by omega, hlast⟩
  · rw [Bool.eq_false_iff.2 hv] at h; simp at h
theorem addC_valid {c d : Cat} {e : Ent} {gone : List Ent} (h : addC c e = (d, gone, 0)) : validC d = true := by
  obtain ⟨hv, he, hn1, hn2, hgs, hc⟩ := addC_ok h
  obtain ⟨a1, a2, a3, a4, a5, a6, a7⟩ := validC_all hv
  obtain ⟨des, dgs⟩ := d
  dsimp only at hgs hc
  subst hgs
  have hb : ∀ g ∈ c.gs, g.base ≠ e.name := fun g hg k => hn2 (by rw [← k]; exact List.mem_map_of_mem hg)
  have a3' := List.all_eq_true.1 a3
  have a5' := List.all_eq_true.1 a5
  have aI := asc_insE e c.es a4 hn1
  rcases hc with ⟨_, rfl, hl, hlim⟩ | ⟨g, hg, old, rest, h0, hgens, _, rfl, hlen, hlast⟩
  · refine validC_mk (by rw [length_insE]; exact hl) a2 (fun x hx => ?_) aI a5' a6 (fun g hg => ⟨fun k => ?_, ?_⟩)
    · rcases (mem_insE e _ x).1 hx with rfl | hx
      · exact he
      · exact a3' x hx
    · rcases names_insE.1 k with k | k
      · exact hb g hg k
      · exact (a7 g hg).1 k
    · by_cases h0 : numS g.base e.name = 0
      · rw [gens_insE_no h0]; exact (a7 g hg).2
      · obtain ⟨k1, k2⟩ := hlim g hg h0
        rw [gens_newer a4 k2, List.length_append]; simp; omega
  · have hold : old ∈ gensS c.es g.base := by rw [hgens]; exact List.mem_cons_self
    have holdm : old.name ∈ namesS c.es := List.mem_map_of_mem (mem_gensS.1 hold).1
    have hdl := length_dropE old.name (insE e c.es) aI (names_insE.2 (.inr holdm))
    rw [length_insE] at hdl
    refine validC_mk (by omega) a2 (fun x hx => ?_) (asc_dropE _ aI) a5' a6 (fun k hk => ⟨fun q => ?_, ?_⟩)
    · rcases (mem_insE e _ x).1 (mem_dropE.1 hx).1 with rfl | hx
      · exact he
      · exact a3' x hx
    · rcases names_insE.1 (names_dropE.1 q).1 with q | q
      · exact hb k hk q
      · exact (a7 k hk).1 q
    · rw [gens_dropE]
      by_cases hk0 : numS k.base e.name = 0
      · rw [gens_insE_no hk0]
        have := length_dropE_le old.name (gensS c.es k.base)
        have := (a7 k hk).2
        omega
      · obtain rfl := asc_grp a6 hk hg (numS_one hk0 h0)
        have hgn := gens_newer a4 hlast
        have := length_dropE old.name (gensS (insE e c.es) k.base) (asc_gens _ aI) (by rw [hgn]; exact List.mem_map_of_mem (List.mem_append.2 (.inl hold)))
        rw [hgn] at this ⊢
        rw [List.length_append] at this
        simp at this ⊢
        omega
theorem removeC_ok {c d : Cat} {n : Bs} (h : removeC c n = (d, 0)) : validC c = true ∧ n ∈ namesS c.es ∧ d = ⟨dropE n c.es, c.gs⟩ := by
  unfold removeC at h
  split at h
  · simp at h
  · rename_i hv
    split at h
    · rename_i hn
      cases h
      exact ⟨by simpa using hv, hn, rfl⟩
    · simp at h
theorem removeC_valid {c d : Cat} {n : Bs} (h : removeC c n = (d, 0)) : validC d = true := by
  obtain ⟨hv, hn, rfl⟩ := removeC_ok h
  obtain ⟨a1, a2, a3, a4, a5, a6, a7⟩ := validC_all hv
  have := length_dropE_le n c.es
  refine validC_mk (by omega) a2 (fun x hx => List.all_eq_true.1 a3 x (mem_dropE.1 hx).1) (asc_dropE _ a4) (List.all_eq_true.1 a5) a6 (fun g hg => ⟨fun q => (a7 g hg).1 (names_dropE.1 q).1, ?_⟩)
  rw [gens_dropE]
  have := length_dropE_le n (gensS c.es g.base)
  have := (a7 g hg).2
  omega
theorem mem_insG (e : Grp) : ∀ (l : List Grp) (x : Grp), x ∈ insG e l ↔ x = e ∨ x ∈ l
  | [], x => by simp [insG]
  | y :: t, x => by
    unfold insG
    split
    · simp
    · rw [List.mem_cons, mem_insG e t x, List.mem_cons]
      constructor
      · rintro (h | h | h)
        · exact .inr (.inl h)
        · exact .inl h
        · exact .inr (.inr h)
      · rintro (h | h | h)
        · exact .inr (.inl h)
        · exact .inl h
        · exact .inr (.inr h)
theorem length_insG (e : Grp) : ∀ l, (insG e l).length = l.length + 1
  | [] => rfl
  | y :: t => by
    unfold insG
    split
    · rfl
    · rw [List.length_cons, length_insG e t, List.length_cons]
theorem asc_insG (e : Grp) : ∀ l, asc (basesS l) = true → e.base ∉ basesS l → asc (basesS (insG e l)) = true
  | [], _, _ => rfl
  | y :: t, h, hn => by
    have hne : y.base ≠ e.base := fun g => hn (by rw [← g]; exact List.mem_cons_self)
    unfold insG
    split
    · rename_i hlt
      refine asc_cons h (fun z hz => ?_)
      rcases List.mem_cons.1 hz with rfl | hz
      · exact hlt
      · exact List.lt_trans hlt (asc_head h z hz)
    · rename_i hlt
      refine asc_cons (asc_insG e t (asc_tail h) (fun g => hn (List.mem_cons_of_mem _ g))) (fun z hz => ?_)
      obtain ⟨x, hx, rfl⟩ := List.mem_map.1 hz
      rcases (mem_insG e t x).1 hx with rfl | hx
      · exact lt_or hlt (Ne.symm hne)
      · exact asc_head h _ (List.mem_map_of_mem hx)
theorem defineC_ok {c d : Cat} {n : Bs} {limit : Int} (h : defineC c n limit = (d, 0)) : validC c = true ∧ grpOk ⟨n, limit⟩ = true ∧ n ∉ namesS c.es ∧ n ∉ basesS c.gs ∧ ((gensS c.es n).length : Int) ≤ limit ∧ c.gs.length < 32 ∧ d = ⟨c.es, insG ⟨n, limit⟩ c.gs⟩ := by
  unfold defineC at h
  split at h
  · simp at h
  · rename_i hv
    simp only [Bool.not_eq_true', Bool.not_eq_false, Bool.and_eq_true] at hv
    split at h
    · simp at h
    · rename_i hn
      split at h
      · simp at h
      · split at h
        · simp at h
        · cases h
          exact ⟨hv.1, hv.2, fun g => hn (.inl g), fun g => hn (.inr g), by omega, by omega, rfl⟩
theorem defineC_valid {c d : Cat} {n : Bs} {limit : Int} (h : defineC c n limit = (d, 0)) : validC d = true := by
  obtain ⟨hv, hg, hn1, hn2, hl, hm, rfl⟩ := defineC_ok h
  obtain ⟨a1, a2, a3, a4, a5, a6, a7⟩ := validC_all hv
  refine validC_mk a1 (by rw [length_insG]; omega) (List.all_eq_true.1 a3) a4 (fun x hx => ?_) (asc_insG _ _ a6 hn2) (fun x hx => ?_)
  · rcases (mem_insG _ _ x).1 hx with rfl | hx
    · exact hg
    · exact List.all_eq_true.1 a5 x hx
  · rcases (mem_insG _ _ x).1 hx with rfl | hx
    · exact ⟨hn1, hl⟩
    · exact a7 x hx

/-! what is found -/
end Go.Proofs.YtldkmclfhjcicaaGreatDoor

/- Layer 27 in plain Lean: the program's and the reference's own roads to Add; no program in sight. -/
namespace Go.Proofs.YtldkmclfhjcicaaGreatDoor
set_option linter.unusedVariables false

def idxG (b : Bs) (es : List Ent) : List Nat := (List.range es.length).filter fun i => decide (0 < numS b (es.getD i default).name)
theorem map_getD_range (es : List Ent) : (List.range es.length).map (fun i => es.getD i default) = es := by
  refine List.ext_getElem (by simp) (fun i h1 h2 => ?_)
  simp only [List.getElem_map, List.getElem_range]
  rw [List.getD_eq_getElem?_getD, List.getElem?_eq_getElem h2]; rfl
theorem idxG_gens (b : Bs) (es : List Ent) : (idxG b es).map (fun i => es.getD i default) = gensS es b := by
  unfold idxG gensS
  conv => rhs; rw [← map_getD_range es]
  rw [List.filter_map]; rfl
theorem idxG_length (b : Bs) (es : List Ent) : (idxG b es).length = (gensS es b).length := by rw [← idxG_gens, List.length_map]
theorem idxG_lt {b : Bs} {es : List Ent} {i : Nat} (h : i ∈ idxG b es) : i < es.length := by unfold idxG at h; simpa using (List.mem_filter.1 h).1
theorem idxG_get (b : Bs) (es : List Ent) (k : Nat) (hk : k < (idxG b es).length) : es.getD ((idxG b es).getD k 0) default = (gensS es b).getD k default := by
  rw [← idxG_gens, List.getD_eq_getElem?_getD (l := (idxG b es).map _), List.getElem?_map, List.getElem?_eq_getElem hk, List.getD_eq_getElem?_getD (l := idxG b es), List.getElem?_eq_getElem hk]; rfl
def baseOf (n : Bs) : Bs := n.take (n.length - 9)
def addP (c : Cat) (e : Ent) : Cat × List Ent × Int :=
  if !(validC c && entOk e) then (⟨[], []⟩, [], 1)
  else if e.name ∈ namesS c.es ∨ e.name ∈ basesS c.gs then (⟨[], []⟩, [], 4)
  else if baseOf e.name ∈ basesS c.gs ∧ 0 < numS (baseOf e.name) e.name then
    if ((gensS (insE e c.es) (baseOf e.name)).getLastD default).name ≠ e.name then (⟨[], []⟩, [], 6)
    else if (((gensS (insE e c.es) (baseOf e.name)).length : Nat) : Int) > (c.gs.getD (lbS (basesS c.gs) (baseOf e.name)) default).limit then
      (if ((insE e c.es).eraseIdx ((idxG (baseOf e.name) (insE e c.es)).getD 0 0)).length > 256 then (⟨[], []⟩, [], 7)
       else (⟨(insE e c.es).eraseIdx ((idxG (baseOf e.name) (insE e c.es)).getD 0 0), c.gs⟩, [(insE e c.es).getD ((idxG (baseOf e.name) (insE e c.es)).getD 0 0) default], 0))
    else if (insE e c.es).length > 256 then (⟨[], []⟩, [], 7) else (⟨insE e c.es, c.gs⟩, [], 0)
  else if (insE e c.es).length > 256 then (⟨[], []⟩, [], 7) else (⟨insE e c.es, c.gs⟩, [], 0)
theorem grp_at {gs : List Grp} (ha : asc (basesS gs) = true) {g : Grp} (hg : g ∈ gs) : gs.getD (lbS (basesS gs) g.base) default = g := by
  have hm : g.base ∈ basesS gs := List.mem_map_of_mem hg
  have h := (lbS_mem (basesS gs) g.base ha).2 hm
  unfold basesS at h
  rw [List.getElem?_map] at h
  cases hq : gs[lbS (gs.map (·.base)) g.base]? with
  | none => rw [hq] at h; cases h
  | some x =>
    rw [hq] at h
    have hb : x.base = g.base := by simpa using h
    have := asc_grp ha (List.mem_of_getElem? hq) hg hb
    subst this
    rw [List.getD_eq_getElem?_getD]; unfold basesS; rw [hq]; rfl
theorem getLastD_append_one (l : List Ent) (e d : Ent) : (l ++ [e]).getLastD d = e := by
  rw [List.getLastD_eq_getLast?, List.getLast?_concat]; rfl
theorem last_ge : ∀ (l : List Ent), asc (namesS l) = true → ∀ x ∈ l, ¬ (l.getLastD default).name < x.name
  | [], _, _, h => by cases h
  | [y], _, x, h => by cases List.mem_singleton.1 h; exact List.lt_irrefl _
  | y :: z :: t, ha, x, h => by
    have hl : (y :: z :: t).getLastD default = (z :: t).getLastD default := by simp [List.getLastD]
    rw [hl]
    rcases List.mem_cons.1 h with rfl | h
    · intro q
      have hz := asc_head ha z.name List.mem_cons_self
      exact last_ge (z :: t) (asc_tail ha) z List.mem_cons_self (List.lt_trans q hz)
    · exact last_ge (z :: t) (asc_tail ha) x h
theorem addP_eq (c : Cat) (e : Ent) : addP c e = addC c e := by
  unfold addP addC
  by_cases hv : (validC c && entOk e) = true
  · have ht : ¬ (!true) = true := by simp
    rw [hv, if_neg ht, if_neg ht]
    simp only [Bool.and_eq_true] at hv
    obtain ⟨hv, he⟩ := hv
    obtain ⟨a1, a2, a3, a4, a5, a6, a7⟩ := validC_all hv
    by_cases hn : e.name ∈ namesS c.es ∨ e.name ∈ basesS c.gs
    · rw [if_pos hn, if_pos hn]
    · rw [if_neg hn, if_neg hn]
      have hn1 : e.name ∉ namesS c.es := fun q => hn (.inl q)
      have aI := asc_insE e c.es a4 hn1
      by_cases hg : baseOf e.name ∈ basesS c.gs ∧ 0 < numS (baseOf e.name) e.name
      · rw [if_pos hg]
        obtain ⟨hg1, hg2⟩ := hg
        obtain ⟨g, hgm, hgb⟩ := List.mem_map.1 hg1
        have hone : ∀ x ∈ c.gs, decide (0 < numS x.base e.name) = true → x = g := fun x hx hp => by
          have hp' : 0 < numS x.base e.name := by simpa using hp
          have hx0 : numS x.base e.name ≠ 0 := by omega
          have hg0 : numS (baseOf e.name) e.name ≠ 0 := by omega
          exact asc_grp a6 hx hgm (by rw [hgb]; exact numS_one hx0 hg0)
        have hgb' : baseOf e.name = g.base := hgb.symm
        rw [hgb'] at hg2 ⊢
        have hf : c.gs.find? (fun g => decide (0 < numS g.base e.name)) = some g := by
          cases hq : c.gs.find? (fun g => decide (0 < numS g.base e.name)) with
          | none => have := List.find?_eq_none.1 hq g hgm; simp at this; omega
          | some x =>
            have h1 := List.find?_some hq
            have h2 := List.mem_of_find?_eq_some hq
            rw [hone x h2 h1]
        rw [hf, grp_at a6 hgm]
        dsimp only
        by_cases hlt : (numsS c.es g.base).getLastD 0 < numS g.base e.name
        · have hgn := gens_newer (b := g.base) (e := e) a4 hlt
          have k1 : ¬ ((gensS (insE e c.es) g.base).getLastD default).name ≠ e.name := by rw [hgn, getLastD_append_one]; simp
          have k2 : ¬ decide ((numsS c.es g.base).getLastD 0 ≥ numS g.base e.name) = true := by rw [decide_eq_true_eq]; omega
          rw [if_neg k1, if_neg k2]
          have hlim := (a7 g hgm).2
          by_cases hl : ((gensS c.es g.base).length : Int) = g.limit
          · have k3 : (((gensS (insE e c.es) g.base).length : Nat) : Int) > g.limit := by rw [hgn, List.length_append, List.length_singleton]; omega
            rw [if_pos hl, if_pos k3]
            have hlim1 : 1 ≤ g.limit := by
              have := List.all_eq_true.1 a5 g hgm
              unfold grpOk at this
              simp only [Bool.and_eq_true, decide_eq_true_eq] at this
              exact this.1.2
            cases hgs : gensS c.es g.base with
            | nil => rw [hgs] at hl; simp at hl; omega
            | cons old rest =>
              rw [hgs] at hgn
              have h0 : 0 < (idxG g.base (insE e c.es)).length := by rw [idxG_length, hgn]; simp
              have hget := idxG_get g.base (insE e c.es) 0 h0
              rw [hgn] at hget
              have hget' : (insE e c.es).getD ((idxG g.base (insE e c.es)).getD 0 0) default = old := hget
              have hi : (idxG g.base (insE e c.es)).getD 0 0 < (insE e c.es).length := by
                refine idxG_lt (b := g.base) ?_
                rw [List.getD_eq_getElem?_getD, List.getElem?_eq_getElem h0]; exact List.getElem_mem h0
              have hat : (insE e c.es)[(idxG g.base (insE e c.es)).getD 0 0]? = some old := by
                rw [List.getD_eq_getElem?_getD, List.getElem?_eq_getElem hi] at hget'
                rw [List.getElem?_eq_getElem hi]
                exact congrArg some hget'
              rw [hget', dropE_idx _ _ old aI hat]
              have hle : (dropE old.name (insE e c.es)).length ≤ c.es.length := by
                have := length_dropE old.name (insE e c.es) aI (List.mem_map_of_mem (List.mem_of_getElem? hat))
                rw [length_insE] at this; omega
              rw [if_neg (by omega)]
              rfl
          · have k3 : ¬ (((gensS (insE e c.es) g.base).length : Nat) : Int) > g.limit := by rw [hgn, List.length_append, List.length_singleton]; omega
            rw [if_neg hl, if_neg k3, length_insE]
        · have k2 : decide ((numsS c.es g.base).getLastD 0 ≥ numS g.base e.name) = true := by rw [decide_eq_true_eq]; omega
          rw [if_pos k2]
          rw [if_pos]
          intro q
          obtain ⟨x, hx, hxn⟩ : ∃ x ∈ gensS c.es g.base, numS g.base x.name = (numsS c.es g.base).getLastD 0 := by
            rcases newest_mem c.es g.base with ⟨k, _⟩ | k
            · omega
            · exact k
          have hx2 := (mem_gensS.1 hx)
          have hxo : x ∈ gensS (insE e c.es) g.base := mem_gensS.2 ⟨(mem_insE e _ x).2 (.inr hx2.1), hx2.2⟩
          have hge := last_ge _ (asc_gens g.base aI) x hxo
          rw [q] at hge
          have hne : x.name ≠ e.name := fun r => hn1 (by rw [← r]; exact List.mem_map_of_mem hx2.1)
          have hxe : x.name < e.name := by
            by_cases r : x.name < e.name
            · exact r
            · exact absurd (lt_or r hne) hge
          have := (numS_lt (b := g.base) (by omega) (by omega)).1 hxe
          omega
      · rw [if_neg hg]
        have hf : c.gs.find? (fun g => decide (0 < numS g.base e.name)) = none := by
          refine List.find?_eq_none.2 (fun g hgm q => hg ?_)
          have q' : 0 < numS g.base e.name := by simpa using q
          have hb : g.base = baseOf e.name := numS_base (by omega)
          exact ⟨by rw [← hb]; exact List.mem_map_of_mem hgm, by rw [← hb]; exact q'⟩
        rw [hf, length_insE]
  · rw [Bool.eq_false_iff.2 hv]; simp

end Go.Proofs.YtldkmclfhjcicaaGreatDoor

/- Layer 27 in plain Lean: the reference's loop over the groups in Add; places by name; no program in sight. -/
namespace Go.Proofs.YtldkmclfhjcicaaGreatDoor
set_option linter.unusedVariables false

end Go.Proofs.YtldkmclfhjcicaaGreatDoor

/- How a catalog is checked, entry by entry and group by group; no program in sight. -/
namespace Go.Proofs.YtldkmclfhjcicaaGreatDoor
set_option linter.unusedVariables false

theorem take_getD {α : Type} [Inhabited α] {l : List α} {k : Nat} (h : k < l.length) : l.take (k + 1) = l.take k ++ [l.getD k default] := by
  rw [List.take_succ_eq_append_getElem h, List.getD_eq_getElem?_getD, List.getElem?_eq_getElem h]; rfl
theorem getD_mem' {α : Type} [Inhabited α] {l : List α} {k : Nat} (h : k < l.length) : l.getD k default ∈ l := by
  rw [List.getD_eq_getElem?_getD, List.getElem?_eq_getElem h]; exact List.getElem_mem h
theorem asc_snoc : ∀ (l : List Bs) (x : Bs), asc (l ++ [x]) = (asc l && (match l.getLast? with | none => true | some y => decide (y < x)))
  | [], x => rfl
  | [a], x => by simp [asc]
  | a :: b :: l, x => by
    have ih := asc_snoc (b :: l) x
    rw [List.cons_append, List.cons_append, asc, ← List.cons_append, ih, asc, Bool.and_assoc]
    simp
theorem getLast_take {α : Type} [Inhabited α] {l : List α} {k : Nat} (h : k < l.length) (hk : 0 < k) : (l.take k).getLast? = some (l.getD (k - 1) default) := by
  obtain ⟨j, rfl⟩ : ∃ j, k = j + 1 := ⟨k - 1, by omega⟩
  rw [take_getD (by omega), List.getLast?_concat]; rfl
theorem asc_take (l : List Bs) (k : Nat) (h : asc l = true) : asc (l.take k) = true := asc_sub (List.take_sublist _ _) h
theorem asc_step {l : List Bs} {k : Nat} (h : k < l.length) (ha : asc (l.take k) = true) (hp : k = 0 ∨ l.getD (k - 1) default < l.getD k default) : asc (l.take (k + 1)) = true := by
  rw [take_getD h, asc_snoc, ha, Bool.true_and]
  rcases hp with rfl | hp
  · rfl
  · rcases Nat.eq_zero_or_pos k with rfl | hk
    · rfl
    · rw [getLast_take h hk]; simpa using hp
theorem asc_prev {l : List Bs} {k : Nat} (h : k < l.length) (hk : 0 < k) (ha : asc l = true) : l.getD (k - 1) default < l.getD k default := by
  have h1 := asc_take l (k + 1) ha
  rw [take_getD h, asc_snoc, getLast_take h hk] at h1
  simp only [Bool.and_eq_true, decide_eq_true_eq] at h1
  exact h1.2
theorem names_getD (es : List Ent) (k : Nat) (h : k < es.length) : (namesS es).getD k default = (es.getD k default).name := by
  unfold namesS
  rw [List.getD_eq_getElem?_getD, List.getElem?_map, List.getElem?_eq_getElem h, List.getD_eq_getElem?_getD, List.getElem?_eq_getElem h]; rfl
theorem bases_getD (es : List Grp) (k : Nat) (h : k < es.length) : (basesS es).getD k default = (es.getD k default).base := by
  unfold basesS
  rw [List.getD_eq_getElem?_getD, List.getElem?_map, List.getElem?_eq_getElem h, List.getD_eq_getElem?_getD, List.getElem?_eq_getElem h]; rfl
theorem names_take (es : List Ent) (k : Nat) : namesS (es.take k) = (namesS es).take k := by unfold namesS; rw [List.map_take]
theorem bases_take (es : List Grp) (k : Nat) : basesS (es.take k) = (basesS es).take k := by unfold basesS; rw [List.map_take]

def ckE (es : List Ent) (k : Nat) : Prop := (es.take k).all entOk = true ∧ asc (namesS (es.take k)) = true
theorem ckE_zero (es : List Ent) : ckE es 0 := ⟨rfl, rfl⟩
theorem ckE_succ {es : List Ent} {k : Nat} (hk : k < es.length) (h : ckE es k) (ho : entOk (es.getD k default) = true) (hp : k = 0 ∨ (es.getD (k - 1) default).name < (es.getD k default).name) : ckE es (k + 1) := by
  refine ⟨?_, ?_⟩
  · rw [take_getD hk, List.all_append, h.1]; simpa using ho
  · rw [names_take]
    refine asc_step (by unfold namesS; simpa using hk) (by rw [← names_take]; exact h.2) ?_
    rcases hp with rfl | hp
    · exact .inl rfl
    · rcases Nat.eq_zero_or_pos k with rfl | h0
      · exact .inl rfl
      · rw [names_getD _ _ hk, names_getD _ _ (by omega)]; exact .inr hp
theorem ckE_all {es : List Ent} (h : ckE es es.length) : es.all entOk = true ∧ asc (namesS es) = true := by
  unfold ckE at h; rwa [List.take_length] at h
theorem bad_ent {c : Cat} {k : Nat} (hk : k < c.es.length) (ho : entOk (c.es.getD k default) = false) : validC c = false := by
  cases h : validC c
  · rfl
  · have := (validC_all h).2.2.1
    rw [List.all_eq_true] at this
    rw [this _ (getD_mem' hk)] at ho; cases ho
theorem bad_ord {c : Cat} {k : Nat} (hk : k < c.es.length) (h0 : 0 < k) (ho : ¬ (c.es.getD (k - 1) default).name < (c.es.getD k default).name) : validC c = false := by
  cases h : validC c
  · rfl
  · have h1 := asc_prev (l := namesS c.es) (by unfold namesS; simpa using hk) h0 (validC_all h).2.2.2.1
    rw [names_getD _ _ hk, names_getD _ _ (by omega)] at h1
    exact absurd h1 ho
theorem bad_len {c : Cat} (h : 256 < c.es.length ∨ 32 < c.gs.length) : validC c = false := by
  cases hv : validC c
  · rfl
  · have := validC_all hv; omega

def gOk (c : Cat) (g : Grp) : Bool := grpOk g && !((namesS c.es).contains g.base) && decide (((gensS c.es g.base).length : Int) ≤ g.limit)
def ckG (c : Cat) (k : Nat) : Prop := (c.gs.take k).all (gOk c) = true ∧ asc (basesS (c.gs.take k)) = true
theorem ckG_zero (c : Cat) : ckG c 0 := ⟨rfl, rfl⟩
theorem ckG_succ {c : Cat} {k : Nat} (hk : k < c.gs.length) (h : ckG c k) (ho : gOk c (c.gs.getD k default) = true) (hp : k = 0 ∨ (c.gs.getD (k - 1) default).base < (c.gs.getD k default).base) : ckG c (k + 1) := by
  refine ⟨?_, ?_⟩
  · rw [take_getD hk, List.all_append, h.1]; simpa using ho
  · rw [bases_take]
    refine asc_step (by unfold basesS; simpa using hk) (by rw [← bases_take]; exact h.2) ?_
    rcases hp with rfl | hp
    · exact .inl rfl
    · rcases Nat.eq_zero_or_pos k with rfl | h0
      · exact .inl rfl
      · rw [bases_getD _ _ hk, bases_getD _ _ (by omega)]; exact .inr hp
theorem bad_grp {c : Cat} {k : Nat} (hk : k < c.gs.length) (ho : gOk c (c.gs.getD k default) = false) : validC c = false := by
  cases h : validC c
  · rfl
  · obtain ⟨_, _, _, _, h5, _, h7⟩ := validC_all h
    rw [List.all_eq_true] at h5
    obtain ⟨g1, g2⟩ := h7 _ (getD_mem' hk)
    unfold gOk at ho
    rw [h5 _ (getD_mem' hk), decide_eq_true g2, List.contains_eq_mem, decide_eq_false g1] at ho
    cases ho
theorem bad_gord {c : Cat} {k : Nat} (hk : k < c.gs.length) (h0 : 0 < k) (ho : ¬ (c.gs.getD (k - 1) default).base < (c.gs.getD k default).base) : validC c = false := by
  cases h : validC c
  · rfl
  · have h1 := asc_prev (l := basesS c.gs) (by unfold basesS; simpa using hk) h0 (validC_all h).2.2.2.2.2.1
    rw [bases_getD _ _ hk, bases_getD _ _ (by omega)] at h1
    exact absurd h1 ho
theorem ck_all {c : Cat} (h1 : c.es.length ≤ 256) (h2 : c.gs.length ≤ 32) (h3 : ckE c.es c.es.length) (h4 : ckG c c.gs.length) : validC c = true := by
  obtain ⟨a, b⟩ := ckE_all h3
  unfold ckG at h4
  rw [List.take_length] at h4
  unfold validC
  rw [decide_eq_true h1, decide_eq_true h2, a, b, h4.2]
  have : c.gs.all (fun g => grpOk g && !((namesS c.es).contains g.base) && decide (((gensS c.es g.base).length : Int) ≤ g.limit)) = true := h4.1
  rw [this]; rfl
theorem grpOk_parts {g : Grp} (h : grpOk g = true) : nameOk g.base = true ∧ g.base.length ≤ 35 ∧ 1 ≤ g.limit ∧ g.limit ≤ 255 := by
  unfold grpOk at h
  simp only [Bool.and_eq_true, decide_eq_true_eq] at h
  exact ⟨h.1.1.1, h.1.1.2, h.1.2, h.2⟩

end Go.Proofs.YtldkmclfhjcicaaGreatDoor

/- Layer 27 in plain Lean: the reference's loops (find, base, without, with, numbers, the insertion of a group); no program in sight. -/
namespace Go.Proofs.YtldkmclfhjcicaaGreatDoor
set_option linter.unusedVariables false

def fIdx (l : List Bs) (n : Bs) : Int := if n ∈ l then (l.idxOf n : Nat) else -1
theorem fIdx_neg (l : List Bs) (n : Bs) : fIdx l n < 0 ↔ n ∉ l := by
  unfold fIdx; by_cases h : n ∈ l
  · rw [if_pos h]; simp [h]
  · rw [if_neg h]; simp [h]
theorem fIdx_nonneg (l : List Bs) (n : Bs) : 0 ≤ fIdx l n ↔ n ∈ l := by have := fIdx_neg l n; constructor <;> intro h <;> by_cases g : n ∈ l <;> simp_all <;> omega
theorem idxOf_at (n : Bs) : ∀ (l : List Bs) (k : Nat), k < l.length → (∀ j < k, l.getD j default ≠ n) → l.getD k default = n → l.idxOf n = k
  | [], _, h, _, _ => absurd h (Nat.not_lt_zero _)
  | x :: t, 0, _, _, he => by
    have : x = n := he
    subst this
    exact List.idxOf_cons_self
  | x :: t, k + 1, hk, ha, he => by
    have h0 : x ≠ n := ha 0 (by omega)
    rw [List.idxOf_cons, beq_false_of_ne h0, cond_false, idxOf_at n t k (by simpa using hk) (fun j hj => ha (j + 1) (by omega)) he]
theorem fIdx_hit {l : List Bs} {n : Bs} {k : Nat} (hk : k < l.length) (ha : ∀ j < k, l.getD j default ≠ n) (he : l.getD k default = n) : fIdx l n = k := by
  have hm : n ∈ l := by rw [← he]; exact getD_mem' hk
  unfold fIdx
  rw [if_pos hm, idxOf_at n l k hk ha he]
theorem fIdx_miss {l : List Bs} {n : Bs} (ha : ∀ j < l.length, l.getD j default ≠ n) : fIdx l n = -1 := by
  unfold fIdx
  rw [if_neg]
  intro hm
  obtain ⟨k, hk, he⟩ := List.getElem_of_mem hm
  exact ha k hk (by rw [List.getD_eq_getElem?_getD, List.getElem?_eq_getElem hk]; exact he)
def wiD (e : Ent) (es : List Ent) (k : Nat) : Bool := (es.take k).any fun x => decide (e.name < x.name)
def wiS (e : Ent) (es : List Ent) (k : Nat) : List Ent := if wiD e es k then insE e (es.take k) else es.take k
theorem insE_late (e : Ent) : ∀ l : List Ent, (∀ x ∈ l, ¬ e.name < x.name) → insE e l = l ++ [e]
  | [], _ => rfl
  | y :: t, h => by
    unfold insE
    rw [if_neg (h y List.mem_cons_self), insE_late e t (fun x hx => h x (List.mem_cons_of_mem _ hx))]; rfl
theorem insE_early (e : Ent) : ∀ (l t : List Ent), (∃ x ∈ l, e.name < x.name) → insE e (l ++ t) = insE e l ++ t
  | [], _, h => by obtain ⟨x, hx, _⟩ := h; cases hx
  | y :: l, t, h => by
    rw [List.cons_append]
    unfold insE
    by_cases q : e.name < y.name
    · rw [if_pos q, if_pos q]; rfl
    · rw [if_neg q, if_neg q, insE_early e l t (by
        obtain ⟨x, hx, hlt⟩ := h
        rcases List.mem_cons.1 hx with rfl | hx
        · exact absurd hlt q
        · exact ⟨x, hx, hlt⟩)]; rfl
theorem wiD_false {e : Ent} {es : List Ent} {k : Nat} (h : wiD e es k = false) : ∀ x ∈ es.take k, ¬ e.name < x.name := by
  unfold wiD at h
  intro x hx q
  rw [List.any_eq_false] at h
  exact h x hx (by simpa using q)
theorem wiD_true {e : Ent} {es : List Ent} {k : Nat} (h : wiD e es k = true) : ∃ x ∈ es.take k, e.name < x.name := by
  unfold wiD at h
  obtain ⟨x, hx, q⟩ := List.any_eq_true.1 h
  exact ⟨x, hx, by simpa using q⟩
theorem wiD_zero (e : Ent) (es : List Ent) : wiD e es 0 = false := rfl
theorem wiS_zero (e : Ent) (es : List Ent) : wiS e es 0 = [] := rfl
theorem wiD_step {e : Ent} {es : List Ent} {k : Nat} (hk : k < es.length) : wiD e es (k + 1) = (wiD e es k || decide (e.name < (es.getD k default).name)) := by
  unfold wiD; rw [take_getD hk, List.any_append]; simp
theorem wiS_new {e : Ent} {es : List Ent} {k : Nat} (hk : k < es.length) (h : wiD e es k = false) (q : e.name < (es.getD k default).name) : wiS e es (k + 1) = wiS e es k ++ [e] ++ [es.getD k default] := by
  unfold wiS
  rw [wiD_step hk, h, decide_eq_true q]
  simp only [Bool.or_true, if_true]
  have hn := wiD_false h
  rw [take_getD hk]
  have : ∀ l : List Ent, (∀ x ∈ l, ¬ e.name < x.name) → insE e (l ++ [es.getD k default]) = l ++ [e] ++ [es.getD k default] := by
    intro l
    induction l with
    | nil => intro _; show insE e [_] = _; unfold insE; rw [if_pos q]; rfl
    | cons y t ih => intro hy; rw [List.cons_append]; unfold insE; rw [if_neg (hy y List.mem_cons_self), ih (fun x hx => hy x (List.mem_cons_of_mem _ hx))]; rfl
  rw [this _ hn]; rfl
theorem wiS_old {e : Ent} {es : List Ent} {k : Nat} (hk : k < es.length) (h : wiD e es k = true ∨ ¬ e.name < (es.getD k default).name) : wiS e es (k + 1) = wiS e es k ++ [es.getD k default] := by
  unfold wiS
  rw [wiD_step hk]
  cases hd : wiD e es k with
  | true => simp only [Bool.true_or, if_true]; rw [take_getD hk, insE_early _ _ _ (wiD_true hd)]
  | false =>
    have q : ¬ e.name < (es.getD k default).name := by rcases h with h | h; rw [hd] at h; cases h; exact h
    rw [decide_eq_false q]; simp only [Bool.or_self, Bool.false_eq_true, if_false]
    exact take_getD hk
theorem wiS_end (e : Ent) (es : List Ent) : insE e es = if wiD e es es.length then wiS e es es.length else wiS e es es.length ++ [e] := by
  unfold wiS
  cases hd : wiD e es es.length with
  | true => simp [List.take_length]
  | false =>
    have hn := wiD_false hd
    rw [List.take_length] at hn
    simp [List.take_length, insE_late e es hn]
theorem nums_take {es : List Ent} {b : Bs} {k : Nat} (hk : k < es.length) : numsS (es.take (k + 1)) b = if 0 < numS b (es.getD k default).name then numsS (es.take k) b ++ [numS b (es.getD k default).name] else numsS (es.take k) b := by
  unfold numsS gensS
  rw [take_getD hk, List.filter_append, List.map_append]
  by_cases h : 0 < numS b (es.getD k default).name
  · rw [if_pos h]; simp only [List.filter_cons, List.filter_nil, decide_eq_true h, if_true, List.map_cons, List.map_nil]
  · rw [if_neg h]; simp only [List.filter_cons, List.filter_nil, decide_eq_false h, Bool.false_eq_true, if_false, List.map_nil, List.append_nil]
theorem nums_all (es : List Ent) (b : Bs) : numsS (es.take es.length) b = numsS es b := by rw [List.take_length]
def wgD (g : Grp) (gs : List Grp) (k : Nat) : Bool := (gs.take k).any fun x => decide (g.base < x.base)
def wgS (g : Grp) (gs : List Grp) (k : Nat) : List Grp := if wgD g gs k then insG g (gs.take k) else gs.take k
theorem insG_late (e : Grp) : ∀ l : List Grp, (∀ x ∈ l, ¬ e.base < x.base) → insG e l = l ++ [e]
  | [], _ => rfl
  | y :: t, h => by
    unfold insG
    rw [if_neg (h y List.mem_cons_self), insG_late e t (fun x hx => h x (List.mem_cons_of_mem _ hx))]; rfl
theorem insG_early (e : Grp) : ∀ (l t : List Grp), (∃ x ∈ l, e.base < x.base) → insG e (l ++ t) = insG e l ++ t
  | [], _, h => by obtain ⟨x, hx, _⟩ := h; cases hx
  | y :: l, t, h => by
    rw [List.cons_append]
    unfold insG
    by_cases q : e.base < y.base
    · rw [if_pos q, if_pos q]; rfl
    · rw [if_neg q, if_neg q, insG_early e l t (by
        obtain ⟨x, hx, hlt⟩ := h
        rcases List.mem_cons.1 hx with rfl | hx
        · exact absurd hlt q
        · exact ⟨x, hx, hlt⟩)]; rfl
theorem wgD_false {e : Grp} {es : List Grp} {k : Nat} (h : wgD e es k = false) : ∀ x ∈ es.take k, ¬ e.base < x.base := by
  unfold wgD at h
  intro x hx q
  rw [List.any_eq_false] at h
  exact h x hx (by simpa using q)
theorem wgD_true {e : Grp} {es : List Grp} {k : Nat} (h : wgD e es k = true) : ∃ x ∈ es.take k, e.base < x.base := by
  unfold wgD at h
  obtain ⟨x, hx, q⟩ := List.any_eq_true.1 h
  exact ⟨x, hx, by simpa using q⟩
theorem wgD_zero (e : Grp) (es : List Grp) : wgD e es 0 = false := rfl
theorem wgS_zero (e : Grp) (es : List Grp) : wgS e es 0 = [] := rfl
theorem wgD_step {e : Grp} {es : List Grp} {k : Nat} (hk : k < es.length) : wgD e es (k + 1) = (wgD e es k || decide (e.base < (es.getD k default).base)) := by
  unfold wgD; rw [take_getD hk, List.any_append]; simp
theorem wgS_new {e : Grp} {es : List Grp} {k : Nat} (hk : k < es.length) (h : wgD e es k = false) (q : e.base < (es.getD k default).base) : wgS e es (k + 1) = wgS e es k ++ [e] ++ [es.getD k default] := by
  unfold wgS
  rw [wgD_step hk, h, decide_eq_true q]
  simp only [Bool.or_true, if_true]
  have hn := wgD_false h
  rw [take_getD hk]
  have : ∀ l : List Grp, (∀ x ∈ l, ¬ e.base < x.base) → insG e (l ++ [es.getD k default]) = l ++ [e] ++ [es.getD k default] := by
    intro l
    induction l with
    | nil => intro _; show insG e [_] = _; unfold insG; rw [if_pos q]; rfl
    | cons y t ih => intro hy; rw [List.cons_append]; unfold insG; rw [if_neg (hy y List.mem_cons_self), ih (fun x hx => hy x (List.mem_cons_of_mem _ hx))]; rfl
  rw [this _ hn]; rfl
theorem wgS_old {e : Grp} {es : List Grp} {k : Nat} (hk : k < es.length) (h : wgD e es k = true ∨ ¬ e.base < (es.getD k default).base) : wgS e es (k + 1) = wgS e es k ++ [es.getD k default] := by
  unfold wgS
  rw [wgD_step hk]
  cases hd : wgD e es k with
  | true => simp only [Bool.true_or, if_true]; rw [take_getD hk, insG_early _ _ _ (wgD_true hd)]
  | false =>
    have q : ¬ e.base < (es.getD k default).base := by rcases h with h | h; rw [hd] at h; cases h; exact h
    rw [decide_eq_false q]; simp only [Bool.or_self, Bool.false_eq_true, if_false]
    exact take_getD hk
theorem wgS_end (e : Grp) (es : List Grp) : insG e es = if wgD e es es.length then wgS e es es.length else wgS e es es.length ++ [e] := by
  unfold wgS
  cases hd : wgD e es es.length with
  | true => simp [List.take_length]
  | false =>
    have hn := wgD_false hd
    rw [List.take_length] at hn
    simp [List.take_length, insG_late e es hn]

end Go.Proofs.YtldkmclfhjcicaaGreatDoor

/- Layer 27 in plain Lean: the newest generation by the indices of generations. -/
namespace Go.Proofs.YtldkmclfhjcicaaGreatDoor

theorem gens_at {es : List Ent} {b : Bs} {k : Nat} (hk : k < (idxG b es).length) : (gensS es b).getD k default = es.getD ((idxG b es).getD k 0) default := (idxG_get b es k hk).symm
theorem nums_last {es : List Ent} {b : Bs} {K : Nat} (h : (idxG b es).length = K) (hK : 0 < K) : (numsS es b).getLastD 0 = numS b (es.getD ((idxG b es).getD (K - 1) 0) default).name := by
  have hg := gens_at (es := es) (b := b) (k := K - 1) (by omega)
  rw [← hg]
  have hl : (gensS es b).length = K := by rw [← idxG_length, h]
  have hk : K - 1 < (gensS es b).length := by omega
  unfold numsS
  rw [List.getLastD_eq_getLast?, List.getLast?_eq_getElem?, List.length_map, hl, List.getElem?_map, List.getD_eq_getElem?_getD, List.getElem?_eq_getElem hk]
  rfl
theorem nums_none {es : List Ent} {b : Bs} (h : (idxG b es).length = 0) : (numsS es b).getLastD 0 = 0 := by
  have hl : (gensS es b).length = 0 := by rw [← idxG_length, h]
  unfold numsS
  rw [List.length_eq_zero_iff.1 hl]; rfl

end Go.Proofs.YtldkmclfhjcicaaGreatDoor

/- Layer 27 in plain Lean: the catalogs to which sequences of calls lead; the newest generations; no program in sight. -/
namespace Go.Proofs.YtldkmclfhjcicaaGreatDoor
set_option linter.unusedVariables false

def wordBases : List Bs := [[65], [66, 46, 67], [80, 65, 89, 46, 76, 73, 83, 84], [83, 89, 83, 49, 46, 80, 82, 79, 67, 76, 73, 66], [65, 46, 71, 48, 48, 48, 49, 86, 48, 48], [36, 88, 46, 64, 89, 46, 35, 90]]
def wordB (n : Nat) : Bs := wordBases.getD (n / 3 % 6) []
def wordS (n : Nat) : Bs := if n % 3 = 0 then wordB n else genName (wordB n) (1 + n / 18)
structure OpS where
  kind : Nat
  which : Nat
  n : Int
  unit : Int
  serial : Bs
def serS (s : Bs) : Bs := 86 :: (s.take 5).map fun x => UInt8.ofNat (65 + x.toNat % 26)
def entS (name : Bs) (o : OpS) : Ent := if o.unit % 2 = 0 then ⟨name, 4, serS o.serial, 1 + o.n % 4096⟩ else ⟨name, 5, serS o.serial, 0⟩
def stepC (c : Cat) (o : OpS) : Cat :=
  if o.kind % 4 = 0 then (if (addC c (entS (wordS o.which) o)).2.2 = 0 then (addC c (entS (wordS o.which) o)).1 else c)
  else if o.kind % 4 = 1 then (if (removeC c (wordS o.which)).2 = 0 then (removeC c (wordS o.which)).1 else c)
  else if o.kind % 4 = 2 then (if (defineC c (wordS o.which) (1 + o.n % 4)).2 = 0 then (defineC c (wordS o.which) (1 + o.n % 4)).1 else c)
  else if (resolveC c (wordS (o.which / 3 * 3)) (1 + o.n % 5)).2 = 0 then
    (if (addC c (entS (resolveC c (wordS (o.which / 3 * 3)) (1 + o.n % 5)).1 o)).2.2 = 0 then (addC c (entS (resolveC c (wordS (o.which / 3 * 3)) (1 + o.n % 5)).1 o)).1 else c)
  else c
def makeS (l : List OpS) : Cat := (l.take 60).foldl stepC ⟨[], []⟩

def wHead (n : Bs) : Prop := n.headD 0 ≠ 78
theorem wordB_mem (n : Nat) : wordB n ∈ wordBases := by
  unfold wordB
  have h : n / 3 % 6 < wordBases.length := by show _ < 6; omega
  rw [List.getD_eq_getElem?_getD, List.getElem?_eq_getElem h]
  exact List.getElem_mem h
theorem wordB_facts : ∀ b ∈ wordBases, wHead b ∧ b ≠ [] ∧ nameOk b = true ∧ b.length ≤ 35 := by
  unfold wHead; decide +kernel
theorem wHead_append {b t : Bs} (h : wHead b) (h0 : b ≠ []) : wHead (b ++ t) := by
  cases b with
  | nil => exact absurd rfl h0
  | cons x b => exact h
theorem wHead_gen {b : Bs} (n : Nat) (h : wHead b) (h0 : b ≠ []) : wHead (genName b n) := by
  unfold genName; rw [List.append_assoc, List.append_assoc]; exact wHead_append h h0
theorem wordS_head (n : Nat) : wHead (wordS n) := by
  obtain ⟨h1, h2, _, _⟩ := wordB_facts _ (wordB_mem n)
  unfold wordS
  split
  · exact h1
  · exact wHead_gen _ h1 h2
theorem entS_name (n : Bs) (o : OpS) : (entS n o).name = n := by unfold entS; split <;> rfl
theorem resolveC_new {c : Cat} {n s : Bs} {rel : Int} (h : resolveC c n rel = (s, 0)) (hr : 0 < rel) : validC c = true ∧ n ∈ basesS c.gs ∧ ∃ k : Nat, 1 ≤ k ∧ k ≤ 9999 ∧ s = genName n k := by
  unfold resolveC at h
  split at h
  · simp at h
  · rename_i hv
    split at h
    · simp at h
    · rename_i hb
      by_cases hk : rel > 9999 - ((numsS c.es n).getLastD 0 : Int)
      · rw [if_pos hk] at h; simp at h
      · rw [if_neg hk] at h
        cases h
        exact ⟨by simpa using hv, by simpa using hb, _, by omega, by omega, rfl⟩
def okMake (k : Nat) (c : Cat) : Prop := validC c = true ∧ c.es.length ≤ k ∧ (∀ e ∈ c.es, wHead e.name) ∧ (∀ g ∈ c.gs, wHead g.base)
theorem okMake_le {k m : Nat} {c : Cat} (h : k ≤ m) (hc : okMake k c) : okMake m c := ⟨hc.1, by have := hc.2.1; omega, hc.2.2⟩
theorem okMake_add {k : Nat} {c : Cat} {e : Ent} (hc : okMake k c) (he : wHead e.name) (h0 : (addC c e).2.2 = 0) : okMake (k + 1) (addC c e).1 := by
  obtain ⟨d, gone, f, hd⟩ : ∃ d gone f, addC c e = (d, gone, f) := ⟨_, _, _, rfl⟩
  rw [hd] at h0 ⊢
  dsimp only at h0 ⊢
  subst h0
  have hv := addC_valid hd
  obtain ⟨_, _, _, _, hgs, hcase⟩ := addC_ok hd
  obtain ⟨c1, c2, c3, c4⟩ := hc
  rcases hcase with ⟨_, hes, _, _⟩ | ⟨g, hg, old, rest, _, _, _, hes, _, _⟩
  · refine ⟨hv, by rw [hes, length_insE]; omega, fun x hx => ?_, by rw [hgs]; exact c4⟩
    rw [hes] at hx
    rcases (mem_insE e _ x).1 hx with rfl | hx
    · exact he
    · exact c3 x hx
  · have hl := length_dropE_le old.name (insE e c.es)
    rw [length_insE] at hl
    refine ⟨hv, by rw [hes]; omega, fun x hx => ?_, by rw [hgs]; exact c4⟩
    rw [hes] at hx
    rcases (mem_insE e _ x).1 (mem_dropE.1 hx).1 with rfl | hx
    · exact he
    · exact c3 x hx
theorem okMake_step {k : Nat} {c : Cat} (o : OpS) (hc : okMake k c) : okMake (k + 1) (stepC c o) := by
  have hsame := okMake_le (Nat.le_succ k) hc
  unfold stepC
  split
  · split
    · rename_i h; exact okMake_add hc (by rw [entS_name]; exact wordS_head _) h
    · exact hsame
  · split
    · split
      · rename_i h
        obtain ⟨d, hd⟩ : ∃ d, removeC c (wordS o.which) = (d, 0) := ⟨(removeC c (wordS o.which)).1, by rw [← h]⟩
        rw [hd]
        have hv := removeC_valid hd
        obtain ⟨_, _, rfl⟩ := removeC_ok hd
        exact ⟨hv, by have := length_dropE_le (wordS o.which) c.es; have := hc.2.1; show (dropE _ _).length ≤ _; omega, fun x hx => hc.2.2.1 x (mem_dropE.1 hx).1, hc.2.2.2⟩
      · exact hsame
    · split
      · split
        · rename_i h
          obtain ⟨d, hd⟩ : ∃ d, defineC c (wordS o.which) (1 + o.n % 4) = (d, 0) := ⟨(defineC c (wordS o.which) (1 + o.n % 4)).1, by rw [← h]⟩
          rw [hd]
          have hv := defineC_valid hd
          obtain ⟨_, _, _, _, _, _, rfl⟩ := defineC_ok hd
          refine ⟨hv, hsame.2.1, hsame.2.2.1, fun g hg => ?_⟩
          rcases (mem_insG _ _ g).1 hg with rfl | hg
          · exact wordS_head _
          · exact hc.2.2.2 g hg
        · exact hsame
      · split
        · rename_i hr
          split
          · rename_i h
            obtain ⟨s, hs⟩ : ∃ s, resolveC c (wordS (o.which / 3 * 3)) (1 + o.n % 5) = (s, 0) := ⟨(resolveC c (wordS (o.which / 3 * 3)) (1 + o.n % 5)).1, by rw [← hr]⟩
            refine okMake_add hc ?_ h
            rw [entS_name, hs]
            obtain ⟨_, _, k', _, _, rfl⟩ := resolveC_new hs (by omega)
            have hw := wordS_head (o.which / 3 * 3)
            refine wHead_gen _ hw (fun q => ?_)
            have hb := wordB_facts _ (wordB_mem (o.which / 3 * 3))
            rw [wordS, if_pos (by omega)] at q
            exact hb.2.1 q
          · exact hsame
        · exact hsame
theorem okMake_fold : ∀ (l : List OpS) (k : Nat) (c : Cat), okMake k c → okMake (k + l.length) (l.foldl stepC c)
  | [], k, c, h => h
  | o :: l, k, c, h => by
    have := okMake_fold l (k + 1) _ (okMake_step o h)
    rw [List.length_cons, List.foldl_cons, (by omega : k + (l.length + 1) = k + 1 + l.length)]
    exact this
theorem okMake_make (l : List OpS) : okMake 60 (makeS l) := by
  have := okMake_fold (l.take 60) 0 ⟨[], []⟩ ⟨by decide, Nat.le_refl _, (fun e he => by cases he), (fun g hg => by cases hg)⟩
  exact okMake_le (by rw [List.length_take]; omega) this

end Go.Proofs.YtldkmclfhjcicaaGreatDoor

/- Layer 27 in plain Lean: a group has its newest generations; no program in sight. -/
namespace Go.Proofs.YtldkmclfhjcicaaGreatDoor
set_option linter.unusedVariables false

theorem splitAtC_append (d : UInt8) : ∀ (p t : Bs), splitAtC d (p ++ d :: t) = splitAtC d p ++ splitAtC d t
  | [], t => by simp [splitAtC]
  | c :: p, t => by
    have ih := splitAtC_append d p t
    rw [List.cons_append, splitAtC, splitAtC]
    by_cases hc : c = d
    · rw [if_pos hc, if_pos hc, ih]; rfl
    · rw [if_neg hc, if_neg hc, ih]
      cases hs : splitAtC d p with
      | nil => exact absurd hs (splitAtC_ne d p)
      | cons x xs => rfl
theorem partOk_gen (n : Nat) (h : n ≤ 9999) : partOk ([71] ++ dig4 n ++ [86, 48, 48]) = true ∧ ∀ c ∈ [71] ++ dig4 n ++ [86, 48, 48], c ≠ (46 : UInt8) := by
  have hd : ∀ d, d < 10 → partC (UInt8.ofNat (48 + d)) = true ∧ UInt8.ofNat (48 + d) ≠ 46 := fun d hd => by
    have e : (UInt8.ofNat (48 + d)).toNat = 48 + d := by rw [UInt8.toNat_ofNat']; omega
    refine ⟨?_, fun q => ?_⟩
    · have hc : capC (UInt8.ofNat (48 + d)) = true := by
        unfold capC; rw [e]
        have h1 : decide (48 ≤ 48 + d) = true := decide_eq_true (by omega)
        have h2 : decide (48 + d ≤ 57) = true := decide_eq_true (by omega)
        rw [h1, h2]; simp
      unfold partC; rw [hc]; rfl
    · have := congrArg UInt8.toNat q; rw [e] at this; simp at this; omega
  unfold dig4
  have a := hd (n / 1000) (by omega)
  have b := hd (n / 100 % 10) (by omega)
  have c := hd (n / 10 % 10) (by omega)
  have d := hd (n % 10) (by omega)
  constructor
  · unfold partOk
    simp only [List.cons_append, List.nil_append, List.length_cons, List.length_nil, List.headD_cons, List.all_cons, List.all_nil, a.1, b.1, c.1, d.1]
    rfl
  · intro x hx
    simp only [List.cons_append, List.nil_append, List.mem_cons, List.not_mem_nil, or_false] at hx
    rcases hx with rfl | rfl | rfl | rfl | rfl | rfl | rfl | rfl
    · decide
    · exact a.2
    · exact b.2
    · exact c.2
    · exact d.2
    · decide
    · decide
    · decide
theorem nameOk_gen (b : Bs) (n : Nat) (h : nameOk b = true) (hl : b.length ≤ 35) (hn : n ≤ 9999) : nameOk (genName b n) = true := by
  unfold nameOk at h ⊢
  simp only [Bool.and_eq_true, decide_eq_true_eq] at h ⊢
  refine ⟨by simp [genName, dig4]; omega, ?_⟩
  have e : genName b n = b ++ 46 :: ([71] ++ dig4 n ++ [86, 48, 48]) := by unfold genName; simp
  rw [e, splitAtC_append, List.all_append, h.2, splitAtC_last 46 _ (partOk_gen n hn).2, List.all_cons, (partOk_gen n hn).1]
  rfl
theorem find_unique {l : List Grp} {p : Grp → Bool} {g : Grp} (hg : g ∈ l) (hp : p g = true) (h : ∀ x ∈ l, p x = true → x = g) : l.find? p = some g := by
  cases hf : l.find? p with
  | none => exact absurd hp (by have := List.find?_eq_none.1 hf g hg; simpa using this)
  | some x => rw [h x (List.mem_of_find?_eq_some hf) (List.find?_some hf)]
def diskS (name : Bs) : Ent := ⟨name, 5, [86, 49], 0⟩
theorem entOk_disk {n : Bs} (h : nameOk n = true) : entOk (diskS n) = true := by
  unfold entOk diskS
  dsimp only
  rw [h]; rfl
theorem addC_newer {c : Cat} {e : Ent} {g : Grp} (hv : validC c = true) (he : entOk e = true) (hg : g ∈ c.gs) (hb : e.name ∉ basesS c.gs) (hn : (numsS c.es g.base).getLastD 0 < numS g.base e.name) :
    addC c e = if ((gensS c.es g.base).length : Int) = g.limit then (⟨dropE ((gensS c.es g.base).headD default).name (insE e c.es), c.gs⟩, [(gensS c.es g.base).headD default], 0)
      else if c.es.length + 1 > 256 then (⟨[], []⟩, [], 7) else (⟨insE e c.es, c.gs⟩, [], 0) := by
  obtain ⟨a1, a2, a3, a4, a5, a6, a7⟩ := validC_all hv
  have hne : e.name ∉ namesS c.es := fun q => by
    obtain ⟨x, hx, hxe⟩ := List.mem_map.1 q
    have : x ∈ gensS c.es g.base := mem_gensS.2 ⟨hx, by rw [hxe]; omega⟩
    have := newest_le a4 this
    rw [hxe] at this; omega
  have hone : ∀ x ∈ c.gs, decide (0 < numS x.base e.name) = true → x = g := fun x hx hp => by
    have hp' : 0 < numS x.base e.name := by simpa using hp
    have hx0 : numS x.base e.name ≠ 0 := by omega
    have hg0 : numS g.base e.name ≠ 0 := by omega
    exact asc_grp a6 hx hg (numS_one hx0 hg0)
  have hf : c.gs.find? (fun g => decide (0 < numS g.base e.name)) = some g := find_unique hg (by simp; omega) hone
  unfold addC
  rw [hv, he, if_neg (by simp), if_neg (by rintro (q | q); exact hne q; exact hb q), hf]
  dsimp only
  rw [if_neg (by simpa using hn)]
  rfl
def gensN (b : Bs) (n k : Nat) : List Ent := (List.range' (n - k + 1) k).map fun m => diskS (genName b m)
theorem gensN_length (b : Bs) (n k : Nat) : (gensN b n k).length = k := by unfold gensN; simp
structure GenInv (b : Bs) (most n : Nat) (c : Cat) : Prop where
  valid : validC c = true
  grp : (⟨b, most⟩ : Grp) ∈ c.gs
  gens : gensS c.es b = gensN b n (min n most)
  len : c.es.length ≤ 60 + n
  heads : ∀ g ∈ c.gs, g.base = b ∨ wHead g.base
theorem GenInv.newest {b : Bs} {most n : Nat} {c : Cat} (h : GenInv b most n c) (hm : 1 ≤ most) (hn : n ≤ 9999) : (numsS c.es b).getLastD 0 = n := by
  unfold numsS
  rw [h.gens]
  obtain ⟨k, hk⟩ : ∃ k, min n most = k := ⟨_, rfl⟩
  rw [hk]
  unfold gensN
  cases k with
  | zero => have : n = 0 := by omega
            subst this; rfl
  | succ k =>
    rw [List.range'_concat, List.map_append, List.map_append, List.getLastD_eq_getLast?, List.map_cons, List.map_nil, List.map_cons, List.map_nil, List.getLast?_concat, Option.getD_some]
    show numS b (genName b _) = n
    rw [numS_gen _ _ (by omega)]; omega
theorem GenInv.next {b : Bs} {most n : Nat} {c : Cat} (h : GenInv b most n c) (hm : 1 ≤ most) (hn : n < 40) (hb : ¬ wHead b) (hok : nameOk b = true) (hl : b.length ≤ 35) :
    ∃ d, addC c (diskS (genName b (n + 1))) = (d, (if n + 1 > most then [diskS (genName b (n + 1 - most))] else []), 0) ∧ GenInv b most (n + 1) d := by
  obtain ⟨a1, a2, a3, a4, a5, a6, a7⟩ := validC_all h.valid
  have hnum : numS b (diskS (genName b (n + 1))).name = n + 1 := numS_gen b (n + 1) (by omega)
  have hnew := h.newest hm (by omega)
  have hh : ¬ wHead (genName b (n + 1)) := fun q => by
    unfold wHead at hb q
    cases b with
    | nil => exact hb (by decide)
    | cons x b => exact hb q
  have hnb : (diskS (genName b (n + 1))).name ∉ basesS c.gs := fun q => by
    obtain ⟨g, hg, he⟩ := List.mem_map.1 q
    rcases h.heads g hg with k | k
    · rw [k] at he
      have := congrArg List.length he
      unfold diskS genName dig4 at this
      simp at this
    · exact hh (by have : g.base = genName b (n + 1) := he
                   rw [← this]; exact k)
  have hadd := addC_newer (e := diskS (genName b (n + 1))) (g := ⟨b, most⟩) h.valid (entOk_disk (nameOk_gen b (n + 1) hok hl (by omega))) h.grp hnb (by dsimp only; rw [hnew, hnum]; omega)
  have hgn := gens_newer (b := b) (e := diskS (genName b (n + 1))) a4 (by rw [hnew, hnum]; omega)
  dsimp only at hadd
  rw [h.gens, gensN_length] at hadd
  have hlen := h.len
  by_cases hk : n + 1 > most
  · rw [if_pos (by omega)] at hadd
    obtain ⟨m, rfl⟩ : ∃ m, most = m + 1 := ⟨most - 1, by omega⟩
    have hmin : min n (m + 1) = m + 1 := by omega
    have hcons : gensN b n (m + 1) = diskS (genName b (n + 1 - (m + 1))) :: (List.range' (n - (m + 1) + 1 + 1) m).map (fun m => diskS (genName b m)) := by
      unfold gensN; rw [List.range'_succ, List.map_cons, (by omega : n - (m + 1) + 1 = n + 1 - (m + 1))]
    rw [hmin, hcons] at hadd
    rw [if_pos hk]
    refine ⟨_, hadd, addC_valid hadd, h.grp, ?_, ?_, h.heads⟩
    · show gensS (dropE _ _) b = _
      have ha : asc (namesS (gensN b n (m + 1) ++ [diskS (genName b (n + 1))])) = true := by
        rw [← hmin, ← h.gens, ← hgn]
        refine asc_gens b (asc_insE _ _ a4 (fun q => ?_))
        obtain ⟨x, hx, hxe⟩ := List.mem_map.1 q
        have hx2 : x ∈ gensS c.es b := mem_gensS.2 ⟨hx, by rw [hxe, hnum]; omega⟩
        have := newest_le a4 hx2
        rw [hxe, hnum, hnew] at this; omega
      rw [gens_dropE, hgn, h.gens, hmin]
      have := dropE_idx (gensN b n (m + 1) ++ [diskS (genName b (n + 1))]) 0 (diskS (genName b (n + 1 - (m + 1)))) ha (by rw [hcons]; rfl)
      show dropE (diskS (genName b (n + 1 - (m + 1)))).name _ = _
      rw [← this, hcons, List.cons_append, List.eraseIdx_cons_zero]
      have h2 : min (n + 1) (m + 1) = m + 1 := by omega
      rw [h2]
      unfold gensN
      rw [List.range'_concat, List.map_append, (by omega : n - (m + 1) + 1 + 1 = n + 1 - (m + 1) + 1), List.map_cons, List.map_nil]
      rw [(by omega : n + 1 - (m + 1) + 1 + 1 * m = n + 1)]
    · show (dropE _ _).length ≤ _
      have := length_dropE_le (diskS (genName b (n + 1 - (m + 1)))).name (insE (diskS (genName b (n + 1))) c.es)
      rw [length_insE] at this
      show (dropE (diskS (genName b (n + 1 - (m + 1)))).name (insE (diskS (genName b (n + 1))) c.es)).length ≤ _
      omega
  · rw [if_neg (by omega), if_neg (by omega)] at hadd
    rw [if_neg hk]
    refine ⟨_, hadd, addC_valid hadd, h.grp, ?_, ?_, h.heads⟩
    · show gensS (insE _ _) b = _
      rw [hgn, h.gens, (by omega : min n most = n), (by omega : min (n + 1) most = n + 1)]
      unfold gensN
      rw [List.range'_concat, List.map_append, List.map_cons, List.map_nil, (by omega : n - n + 1 = 1), (by omega : n + 1 - (n + 1) + 1 = 1)]
      rw [(by omega : 1 + 1 * n = n + 1)]
    · show (insE _ _).length ≤ _
      rw [length_insE]; omega
end Go.Proofs.YtldkmclfhjcicaaGreatDoor

/- Layer 27 in plain Lean: the chapter's examples (works); no program in sight. -/
namespace Go.Proofs.YtldkmclfhjcicaaGreatDoor

def wN (k : Nat) : Bs := [65, 46, 71, 48, 48, 48, UInt8.ofNat (48 + k), 86, 48, 48]
def wC : Nat → Cat
  | 0 => ⟨[], [⟨[65], 2⟩]⟩
  | 1 => ⟨[diskS (wN 3)], [⟨[65], 2⟩]⟩
  | 2 => ⟨[diskS (wN 3), diskS (wN 4)], [⟨[65], 2⟩]⟩
  | _ => ⟨[diskS (wN 4), diskS (wN 5)], [⟨[65], 2⟩]⟩
theorem w_define : defineC ⟨[], []⟩ [65] 2 = (wC 0, 0) := by decide +kernel
theorem w_res2 : resolveC (wC 3) [65] (-2) = ([], 3) := by decide +kernel
theorem w_gen1 : genS [80, 65, 89, 46, 76, 73, 83, 84] 7 = ([80, 65, 89, 46, 76, 73, 83, 84, 46, 71, 48, 48, 48, 55, 86, 48, 48], true) := by decide +kernel
theorem w_gen2 : genS [80, 65, 89, 46, 76, 73, 83, 84] 0 = ([], false) := by decide +kernel
theorem w_gen3 : genS [65] 9999 = ([65, 46, 71, 57, 57, 57, 57, 86, 48, 48], true) := by decide +kernel

end Go.Proofs.YtldkmclfhjcicaaGreatDoor

/- Layer 27 in plain Lean: the examples and the limits; no program in sight. -/
namespace Go.Proofs.YtldkmclfhjcicaaGreatDoor
set_option linter.unusedVariables false

end Go.Proofs.YtldkmclfhjcicaaGreatDoor

/- The first rune that a test takes: none where each byte is ASCII and is refused by it; no program in sight. -/
namespace Go.Proofs.YtldkmclfhjcicaaGreatDoor
open Go.RowKit Go.Lib

theorem decode_low (s : ByteArray) (pos : Nat) (h : (s.get! pos).toNat < 128) : Utf8.decode s pos = ((s.get! pos).toNat, 1) := by
  unfold Utf8.decode
  simp only [Nat.add_zero]
  rw [if_pos h]
theorem decode_high (s : ByteArray) (pos : Nat) (h : 128 ≤ (s.get! pos).toNat) : 128 ≤ (Utf8.decode s pos).1 := by
  rw [decode_at]
  unfold decodeN
  repeat' split
  all_goals (simp only; omega)
theorem get_bang (s : ByteArray) (pos : Nat) (h : pos < s.size) : s.data.toList.drop pos = s.get! pos :: s.data.toList.drop (pos + 1) := by
  have hl : pos < s.data.toList.length := by simpa using h
  rw [List.drop_eq_getElem_cons hl]
  congr 1
  have : s.get! pos = s.data[pos]! := rfl
  rw [this, getElem!_pos s.data pos (by simpa using hl)]
  simp

theorem idx_from (p : Nat → Bool) (ok : UInt8 → Bool) (hp : ∀ c : UInt8, c.toNat < 128 → p c.toNat = !ok c) (hq : ∀ x, 128 ≤ x → p x = true) (hok : ∀ c, ok c = true → c.toNat < 128) (s : ByteArray) :
    ∀ (f pos : Nat), s.size ≤ pos + f → decide (0 ≤ idxFuncFrom p true s f pos) = !((s.data.toList.drop pos).all ok)
  | 0, pos, h => by
    rw [List.drop_of_length_le (by simpa using h)]; rfl
  | f + 1, pos, h => by
    unfold idxFuncFrom
    by_cases hl : pos < s.size
    · rw [if_pos hl, get_bang s pos hl, List.all_cons]
      by_cases hc : (s.get! pos).toNat < 128
      · rw [decode_low s pos hc]
        simp only
        rw [hp _ hc]
        cases ho : ok (s.get! pos)
        · simp
        · simp only [Bool.not_true, Bool.false_eq_true, if_false, Bool.true_and]
          exact idx_from p ok hp hq hok s f (pos + 1) (by omega)
      · rw [hq _ (decode_high s pos (by omega)), if_pos rfl]
        have : ok (s.get! pos) = false := by
          cases ho : ok (s.get! pos)
          · rfl
          · exact absurd (hok _ ho) hc
        rw [this]; simp
    · rw [if_neg hl, List.drop_of_length_le (by simp; omega)]; rfl
theorem idx_all (p : Nat → Bool) (ok : UInt8 → Bool) (hp : ∀ c : UInt8, c.toNat < 128 → p c.toNat = !ok c) (hq : ∀ x, 128 ≤ x → p x = true) (hok : ∀ c, ok c = true → c.toNat < 128) (s : ByteArray) :
    decide (0 ≤ idxFunc p true s) = !(s.data.toList.all ok) := by
  unfold idxFunc
  rw [idx_from p ok hp hq hok s s.size 0 (by omega)]; rfl

end Go.Proofs.YtldkmclfhjcicaaGreatDoor

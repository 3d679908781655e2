import Derived.Lib.ItoaNum
import Derived.Test.YtedbbinlcdgkoaaGreatDoorQS

/- Layer 19: descriptions are written and read again. No program in sight. -/
namespace Go.Proofs.YtedbbinlcdgkoaaGreatDoor
open Go.Lib
set_option linter.unusedVariables false
set_option linter.unusedSimpArgs false
def hexD (n : Nat) : UInt8 := hexS.getD n 0
def hex3 (n : Nat) : Bs := [hexD (n / 256), hexD (n / 16 % 16), hexD (n % 16)]
def kndS (k : Int) : Bs := if k = 1 then [82, 69, 65, 68, 69, 82] else if k = 2 then [80, 85, 78, 67, 72] else if k = 3 then [80, 82, 73, 78, 84, 69, 82] else if k = 4 then [84, 65, 80, 69] else if k = 5 then [68, 73, 83, 75] else []
def decI (n : Int) : Bs := decDigits n.toNat
def unitW (u : UniT) : List Bs := kUnit :: hex3 u.addr.toNat :: kndS u.kind :: (if u.kind = 4 then [u.ser] else if u.kind = 5 then [u.ser, decI u.cyl, decI u.head] else [])
def partW (p : ParT) : List Bs := [kPart, decI p.size, p.cls]
def storeW (n : Int) : List Bs := [kStore, decI n]
def joinW : List Bs → Bs
  | [] => []
  | [x] => x
  | x :: y :: r => x ++ 32 :: joinW (y :: r)
def lineW (l : List Bs) : Bs := joinW l ++ [10]
def linesC (c : CfgT) : List (List Bs) := storeW c.store :: (c.ps.map partW ++ c.us.map unitW)
def printT (c : CfgT) : Bs := ((linesC c).map lineW).flatten
theorem dec_len : ∀ (k n : Nat), 1 ≤ k → n < 10 ^ k → (decDigits n).length ≤ k
  | 0, n, h, _ => by omega
  | k + 1, n, _, h => by
    rw [decDigits]
    split
    · simp
    · rename_i hn
      rw [List.length_append, List.length_singleton]
      rcases Nat.eq_zero_or_pos k with rfl | hk
      · omega
      · have := dec_len k (n / 10) hk (by rw [Nat.pow_succ] at h; omega)
        omega
end Go.Proofs.YtedbbinlcdgkoaaGreatDoor

/- Layer 19: a description in any order of its lines. No program in sight. -/
namespace Go.Proofs.YtedbbinlcdgkoaaGreatDoor
open Go.Lib
set_option linter.unusedVariables false
set_option linter.unusedSimpArgs false
structure ValC (c : CfgT) : Prop where
  st : sizT c.store = true
  p1 : 1 ≤ c.ps.length
  p4 : c.ps.length ≤ 4
  n : c.us.length ≤ 16
  p : ∀ x ∈ c.ps, partT x = true
  u : ∀ x ∈ c.us, unitT x = true
  s : sorT c.us
  d : c.us.Pairwise fun x y => ¬ (y.ser ≠ [] ∧ x.ser = y.ser)
  sum : sumT c.ps ≤ c.store
theorem getD_us (us : List UniT) {k : Nat} (h : k < us.length) : us.getD k ⟨0, 0, [], 0, 0⟩ = us[k] := by
  simp [List.getD_eq_getElem?_getD, List.getElem?_eq_getElem h]
theorem units_parts {us : List UniT} (h : unitsT us = true) : (∀ x ∈ us, unitT x = true) ∧ sorT us ∧ us.Pairwise fun x y => ¬ (y.ser ≠ [] ∧ x.ser = y.ser) := by
  unfold unitsT at h
  rw [List.all_eq_true] at h
  have h1 : ∀ k (hk : k < us.length), unitT us[k] = true ∧ (k = 0 ∨ ¬ us[k].addr ≤ (us[k-1]'(by omega)).addr) ∧ ∀ x ∈ us.take k, ¬ (us[k].ser ≠ [] ∧ x.ser = us[k].ser) := fun k hk => by
    have := h k (List.mem_range.2 hk)
    unfold unit1T at this
    rw [getD_us us hk, getD_us us (show k - 1 < us.length by omega)] at this
    simp only [Bool.and_eq_true, Bool.or_eq_true, decide_eq_true_eq, Bool.not_eq_true', decide_eq_false_iff_not, List.any_eq_false] at this
    refine ⟨this.1.1, this.1.2, fun x hx q => this.2 x hx ⟨by rw [q.2]; exact q.1, q.2⟩⟩
  refine ⟨fun x hx => ?_, ?_, ?_⟩
  · obtain ⟨k, hk, rfl⟩ := List.getElem_of_mem hx
    exact (h1 k hk).1
  · have key : ∀ j (hj : j < us.length) i (hi : i < j), (us[i]'(by omega)).addr < us[j].addr := by
      intro j
      induction j with
      | zero => intro _ i hi; omega
      | succ j ih =>
        intro hj i hi
        have h2 := (h1 (j + 1) hj).2.1
        have h3 : (us[j]'(by omega)).addr < us[j + 1].addr := by
          rcases h2 with q | q
          · omega
          · simp only [Nat.add_sub_cancel] at q; omega
        rcases Nat.eq_or_lt_of_le (Nat.le_of_lt_succ hi) with e | e
        · subst e; exact h3
        · have := ih (by omega) i e; omega
    exact List.pairwise_iff_getElem.2 fun i j hi hj hij => key j hj i hij
  · refine List.pairwise_iff_getElem.2 fun i j hi hj hij => ?_
    refine (h1 j hj).2.2 us[i] ?_
    rw [List.mem_iff_getElem]
    exact ⟨i, by rw [List.length_take]; omega, by rw [List.getElem_take]⟩
theorem val_of {c : CfgT} (h : chkE c = 0) : ValC c := by
  have h0 : cfgT c = true := by
    unfold chkE at h
    split at h
    · assumption
    · omega
  unfold cfgT formT at h0
  simp only [Bool.and_eq_true, Bool.not_eq_true', Bool.or_eq_false_iff, decide_eq_false_iff_not, List.all_eq_true, Bool.not_eq_false'] at h0
  obtain ⟨⟨⟨⟨⟨⟨h1, h2⟩, h3⟩, h4⟩, h5⟩, h6⟩, h7⟩ := h0
  obtain ⟨g1, g2, g3⟩ := units_parts h6
  exact ⟨h1, by omega, by omega, by omega, h5, g1, g2, g3, by omega⟩
inductive Both {α γ : Type} (R : α → γ → Prop) : List α → List γ → Prop
  | nil : Both R [] []
  | cons {a : α} {b : γ} {l₁ : List α} {l₂ : List γ} : R a b → Both R l₁ l₂ → Both R (a :: l₁) (b :: l₂)
inductive It where
  | void
  | store
  | part (p : ParT)
  | unit (u : UniT)
def Tells (c : CfgT) (i : It) (ws : List Bs) : Prop := match i with
  | .void => voidT ws = true
  | .store => ws = storeW c.store
  | .part p => ws = partW p
  | .unit u => ws = unitW u
def prtI : It → Option ParT
  | .part p => some p
  | _ => none
def uniI : It → Option UniT
  | .unit u => some u
  | _ => none
def stoI : It → Option Unit
  | .store => some ()
  | _ => none
theorem size_bound {n : Int} (h : sizT n = true) : 2048 ≤ n ∧ n ≤ 65536 := by
  unfold sizT at h
  simp only [Bool.and_eq_true, decide_eq_true_eq] at h
  exact h.1
theorem unit_kind {u : UniT} (h : unitT u = true) : 1 ≤ u.kind ∧ u.kind ≤ 5 := by
  unfold unitT at h
  rw [Bool.and_eq_true] at h
  have h2 := h.2
  split at h2
  · rename_i q; rcases q with q | q | q <;> omega
  · split at h2
    · omega
    · split at h2
      · omega
      · cases h2
theorem unit_tape {u : UniT} (h : unitT u = true) (hk : u.kind = 4) : plainT u.ser 6 = true ∧ u.cyl = 0 ∧ u.head = 0 := by
  unfold unitT at h
  rw [Bool.and_eq_true] at h
  have h2 := h.2
  rw [if_neg (by omega), if_pos hk] at h2
  unfold flatT at h2
  simp only [Bool.and_eq_true, decide_eq_true_eq] at h2
  exact ⟨h2.1, h2.2.1, h2.2.2⟩
theorem unit_disk {u : UniT} (h : unitT u = true) (hk : u.kind = 5) : plainT u.ser 6 = true ∧ 1 ≤ u.cyl ∧ u.cyl ≤ 64 ∧ 1 ≤ u.head ∧ u.head ≤ 8 := by
  unfold unitT at h
  rw [Bool.and_eq_true] at h
  have h2 := h.2
  rw [if_neg (by omega), if_neg (by omega), if_pos hk] at h2
  simp only [Bool.and_eq_true, decide_eq_true_eq] at h2
  exact ⟨h2.1.1.1.1, h2.1.1.1.2, h2.1.1.2, h2.1.2, h2.2⟩
theorem join_len : ∀ l : List Bs, (joinW l).length ≤ (l.map fun w => w.length + 1).sum
  | [] => by simp [joinW]
  | [x] => by simp [joinW]
  | x :: y :: r => by
    have := join_len (y :: r)
    rw [joinW, List.map_cons, List.sum_cons, List.length_append, List.length_cons]; omega
theorem line_len {c : CfgT} (hv : ValC c) : ∀ l ∈ linesC c, (joinW l).length ≤ 50 := by
  intro l hl
  refine Nat.le_trans (join_len l) ?_
  have hpl : ∀ {s n}, plainT s n = true → s.length ≤ n := fun h => plain_len h
  have hdl : ∀ {n : Int}, n < 1000000 → (decI n).length ≤ 6 := fun {n} h => dec_len 6 n.toNat (by omega) (by omega)
  unfold linesC at hl
  rcases List.mem_cons.1 hl with rfl | hl
  · have := hdl (n := c.store) (by have := (size_bound hv.st).2; omega)
    unfold storeW kStore
    simp only [List.map_cons, List.map_nil, List.sum_cons, List.sum_nil, List.length_cons, List.length_nil]; omega
  · rcases List.mem_append.1 hl with q | q
    · obtain ⟨p, hp, rfl⟩ := List.mem_map.1 q
      have h := hv.p p hp
      unfold partT at h
      simp only [Bool.and_eq_true] at h
      have h1 := hpl h.1.2
      have := hdl (n := p.size) (by have := (size_bound h.1.1).2; omega)
      unfold partW kPart
      simp only [List.map_cons, List.map_nil, List.sum_cons, List.sum_nil, List.length_cons, List.length_nil]; omega
    · obtain ⟨u, hu, rfl⟩ := List.mem_map.1 q
      have h := hv.u u hu
      have hk := unit_kind h
      have hkl : (kndS u.kind).length ≤ 7 := by
        have : u.kind = 1 ∨ u.kind = 2 ∨ u.kind = 3 ∨ u.kind = 4 ∨ u.kind = 5 := by omega
        rcases this with e | e | e | e | e <;> (rw [e]; decide)
      unfold unitW kUnit hex3
      split
      · rename_i k
        have := hpl (unit_tape h k).1
        simp only [List.map_cons, List.map_nil, List.sum_cons, List.sum_nil, List.length_cons, List.length_nil]; omega
      · split
        · rename_i k
          obtain ⟨e1, e2, e3, e4, e5⟩ := unit_disk h k
          have := hpl e1
          have := hdl (n := u.cyl) (by omega)
          have := hdl (n := u.head) (by omega)
          simp only [List.map_cons, List.map_nil, List.sum_cons, List.sum_nil, List.length_cons, List.length_nil]; omega
        · simp only [List.map_cons, List.map_nil, List.sum_cons, List.sum_nil, List.length_cons, List.length_nil]; omega
end Go.Proofs.YtedbbinlcdgkoaaGreatDoor

/- Layer 19: comments, blanks and the order of lines. No program in sight. -/
namespace Go.Proofs.YtedbbinlcdgkoaaGreatDoor
open Go.Lib
set_option linter.unusedVariables false
set_option linter.unusedSimpArgs false
structure LayI (c : CfgT) (I : List It) (L : List Bs) : Prop where
  t : Both (fun i s => Tells c i (wordsT s)) I L
  s : (I.filterMap stoI).length = 1
  p : I.filterMap prtI = c.ps
  u : (I.filterMap uniI).Perm c.us
  n : ∀ s ∈ L, ∀ x ∈ s, x ≠ 10
  l : ∀ s ∈ L, s.length ≤ 302
theorem Both.len {α γ : Type} {R : α → γ → Prop} : ∀ {a : List α} {b : List γ}, Both R a b → a.length = b.length
  | _, _, .nil => rfl
  | _, _, .cons _ h => by rw [List.length_cons, List.length_cons, h.len]
theorem Both.split {α γ : Type} {R : α → γ → Prop} : ∀ {x y : List γ} {a : List α}, Both R a (x ++ y) → ∃ a1 a2, a = a1 ++ a2 ∧ Both R a1 x ∧ Both R a2 y
  | [], y, a, h => ⟨[], a, rfl, .nil, h⟩
  | z :: x, y, _, .cons (a := u) h1 h => by
    obtain ⟨a1, a2, e, g1, g2⟩ := Both.split (x := x) h
    exact ⟨u :: a1, a2, by rw [e]; rfl, .cons h1 g1, g2⟩
theorem Both.app {α γ : Type} {R : α → γ → Prop} : ∀ {a1 : List α} {x : List γ} {a2 : List α} {y : List γ}, Both R a1 x → Both R a2 y → Both R (a1 ++ a2) (x ++ y)
  | _, _, _, _, .nil, h => h
  | _, _, _, _, .cons h1 h, g => .cons h1 (h.app g)
end Go.Proofs.YtedbbinlcdgkoaaGreatDoor

/- Layer 19: the law's Make. No program in sight. -/
namespace Go.Proofs.YtedbbinlcdgkoaaGreatDoor
open Go.Lib
set_option linter.unusedVariables false
set_option linter.unusedSimpArgs false
end Go.Proofs.YtedbbinlcdgkoaaGreatDoor

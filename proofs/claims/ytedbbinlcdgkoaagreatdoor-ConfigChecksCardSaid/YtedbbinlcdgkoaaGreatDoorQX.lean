import Derived.Lib.ItoaNum
import Derived.Test.YtedbbinlcdgkoaaGreatDoorQS

/- Layer 19: descriptions are written and read again. No program in sight. -/
namespace Go.Proofs.YtedbbinlcdgkoaaGreatDoor
open Go.Lib
set_option linter.unusedVariables false
set_option linter.unusedSimpArgs false
def hexD (n : Nat) : UInt8 := hexS.getD n 0
def hex3 (n : Nat) : Bs := [hexD (n / 256), hexD (n / 16 % 16), hexD (n % 16)]
def kndS (k : Int) : Bs := if k = 1 then [82, 69, 65, 68, 69, 82] else if k = 2 then [80, 85, 78, 67, 72] else if k = 3 then [80, 82, 73, 78, 84, 69, 82] else if k = 4 then [84, 65, 80, 69] else if k = 5 then [68, 73, 83, 75] else []
def decI (n : Int) : Bs := decDigits n.toNat
def unitW (u : UniT) : List Bs := kUnit :: hex3 u.addr.toNat :: kndS u.kind :: (if u.kind = 4 then [u.ser] else if u.kind = 5 then [u.ser, decI u.cyl, decI u.head] else [])
def partW (p : ParT) : List Bs := [kPart, decI p.size, p.cls]
def storeW (n : Int) : List Bs := [kStore, decI n]
def joinW : List Bs → Bs
  | [] => []
  | [x] => x
  | x :: y :: r => x ++ 32 :: joinW (y :: r)
def lineW (l : List Bs) : Bs := joinW l ++ [10]
def linesC (c : CfgT) : List (List Bs) := storeW c.store :: (c.ps.map partW ++ c.us.map unitW)
def printT (c : CfgT) : Bs := ((linesC c).map lineW).flatten
theorem dec_len : ∀ (k n : Nat), 1 ≤ k → n < 10 ^ k → (decDigits n).length ≤ k
  | 0, n, h, _ => by omega
  | k + 1, n, _, h => by
    rw [decDigits]
    split
    · simp
    · rename_i hn
      rw [List.length_append, List.length_singleton]
      rcases Nat.eq_zero_or_pos k with rfl | hk
      · omega
      · have := dec_len k (n / 10) hk (by rw [Nat.pow_succ] at h; omega)
        omega
end Go.Proofs.YtedbbinlcdgkoaaGreatDoor

/- Layer 19: a description in any order of its lines. No program in sight. -/
namespace Go.Proofs.YtedbbinlcdgkoaaGreatDoor
open Go.Lib
set_option linter.unusedVariables false
set_option linter.unusedSimpArgs false
structure ValC (c : CfgT) : Prop where
  st : sizT c.store = true
  p1 : 1 ≤ c.ps.length
  p4 : c.ps.length ≤ 4
  n : c.us.length ≤ 16
  p : ∀ x ∈ c.ps, partT x = true
  u : ∀ x ∈ c.us, unitT x = true
  s : sorT c.us
  d : c.us.Pairwise fun x y => ¬ (y.ser ≠ [] ∧ x.ser = y.ser)
  sum : sumT c.ps ≤ c.store
theorem getD_us (us : List UniT) {k : Nat} (h : k < us.length) : us.getD k ⟨0, 0, [], 0, 0⟩ = us[k] := by
  simp [List.getD_eq_getElem?_getD, List.getElem?_eq_getElem h]
theorem units_parts {us : List UniT} (h : unitsT us = true) : (∀ x ∈ us, unitT x = true) ∧ sorT us ∧ us.Pairwise fun x y => ¬ (y.ser ≠ [] ∧ x.ser = y.ser) := by
  unfold unitsT at h
  rw [List.all_eq_true] at h
  have h1 : ∀ k (hk : k < us.length), unitT us[k] = true ∧ (k = 0 ∨ ¬ us[k].addr ≤ (us[k-1]'(by omega)).addr) ∧ ∀ x ∈ us.take k, ¬ (us[k].ser ≠ [] ∧ x.ser = us[k].ser) := fun k hk => by
    have := h k (List.mem_range.2 hk)
    unfold unit1T at this
    rw [getD_us us hk, getD_us us (show k - 1 < us.length by omega)] at this
    simp only [Bool.and_eq_true, Bool.or_eq_true, decide_eq_true_eq, Bool.not_eq_true', decide_eq_false_iff_not, List.any_eq_false] at this
    refine ⟨this.1.1, this.1.2, fun x hx q => this.2 x hx ⟨by rw [q.2]; exact q.1, q.2⟩⟩
  refine ⟨fun x hx => ?_, ?_, ?_⟩
  · obtain ⟨k, hk, rfl⟩ := List.getElem_of_mem hx
    exact (h1 k hk).1
  · have key : ∀ j (hj : j < us.length) i (hi : i < j), (us[i]'(by omega)).addr < us[j].addr := by
      intro j
      induction j with
      | zero => intro _ i hi; omega
      | succ j ih =>
        intro hj i hi
        have h2 := (h1 (j + 1) hj).2.1
        have h3 : (us[j]'(by omega)).addr < us[j + 1].addr := by
          rcases h2 with q | q
          · omega
          · simp only [Nat.add_sub_cancel] at q; omega
        rcases Nat.eq_or_lt_of_le (Nat.le_of_lt_succ hi) with e | e
        · subst e; exact h3
        · have := ih (by omega) i e; omega
    exact List.pairwise_iff_getElem.2 fun i j hi hj hij => key j hj i hij
  · refine List.pairwise_iff_getElem.2 fun i j hi hj hij => ?_
    refine (h1 j hj).2.2 us[i] ?_
    rw [List.mem_iff_getElem]
    exact ⟨i, by rw [List.length_take]; omega, by rw [List.getElem_take]⟩
theorem val_of {c : CfgT} (h : chkE c = 0) : ValC c := by
  have h0 : cfgT c = true := by
    unfold chkE at h
    split at h
    · assumption
    · omega
  unfold cfgT formT at h0
  simp only [Bool.and_eq_true, Bool.not_eq_true', Bool.or_eq_false_iff, decide_eq_false_iff_not, List.all_eq_true, Bool.not_eq_false'] at h0
  obtain ⟨⟨⟨⟨⟨⟨h1, h2⟩, h3⟩, h4⟩, h5⟩, h6⟩, h7⟩ := h0
  obtain ⟨g1, g2, g3⟩ := units_parts h6
  exact ⟨h1, by omega, by omega, by omega, h5, g1, g2, g3, by omega⟩
inductive Both {α γ : Type} (R : α → γ → Prop) : List α → List γ → Prop
  | nil : Both R [] []
  | cons {a : α} {b : γ} {l₁ : List α} {l₂ : List γ} : R a b → Both R l₁ l₂ → Both R (a :: l₁) (b :: l₂)
inductive It where
  | void
  | store
  | part (p : ParT)
  | unit (u : UniT)
def Tells (c : CfgT) (i : It) (ws : List Bs) : Prop := match i with
  | .void => voidT ws = true
  | .store => ws = storeW c.store
  | .part p => ws = partW p
  | .unit u => ws = unitW u
def prtI : It → Option ParT
  | .part p => some p
  | _ => none
def uniI : It → Option UniT
  | .unit u => some u
  | _ => none
def stoI : It → Option Unit
  | .store => some ()
  | _ => none
theorem size_bound {n : Int} (h : sizT n = true) : 2048 ≤ n ∧ n ≤ 65536 := by
  unfold sizT at h
  simp only [Bool.and_eq_true, decide_eq_true_eq] at h
  exact h.1
theorem unit_kind {u : UniT} (h : unitT u = true) : 1 ≤ u.kind ∧ u.kind ≤ 5 := by
  unfold unitT at h
  rw [Bool.and_eq_true] at h
  have h2 := h.2
  split at h2
  · rename_i q; rcases q with q | q | q <;> omega
  · split at h2
    · omega
    · split at h2
      · omega
      · cases h2
theorem unit_tape {u : UniT} (h : unitT u = true) (hk : u.kind = 4) : plainT u.ser 6 = true ∧ u.cyl = 0 ∧ u.head = 0 := by
  unfold unitT at h
  rw [Bool.and_eq_true] at h
  have h2 := h.2
  rw [if_neg (by omega), if_pos hk] at h2
  unfold flatT at h2
  simp only [Bool.and_eq_true, decide_eq_true_eq] at h2
  exact ⟨h2.1, h2.2.1, h2.2.2⟩
theorem unit_disk {u : UniT} (h : unitT u = true) (hk : u.kind = 5) : plainT u.ser 6 = true ∧ 1 ≤ u.cyl ∧ u.cyl ≤ 64 ∧ 1 ≤ u.head ∧ u.head ≤ 8 := by
  unfold unitT at h
  rw [Bool.and_eq_true] at h
  have h2 := h.2
  rw [if_neg (by omega), if_neg (by omega), if_pos hk] at h2
  simp only [Bool.and_eq_true, decide_eq_true_eq] at h2
  exact ⟨h2.1.1.1.1, h2.1.1.1.2, h2.1.1.2, h2.1.2, h2.2⟩
theorem join_len : ∀ l : List Bs, (joinW l).length ≤ (l.map fun w => w.length + 1).sum
  | [] => by simp [joinW]
  | [x] => by simp [joinW]
  | x :: y :: r => by
    have := join_len (y :: r)
    rw [joinW, List.map_cons, List.sum_cons, List.length_append, List.length_cons]; omega
theorem line_len {c : CfgT} (hv : ValC c) : ∀ l ∈ linesC c, (joinW l).length ≤ 50 := by
  intro l hl
  refine Nat.le_trans (join_len l) ?_
  have hpl : ∀ {s n}, plainT s n = true → s.length ≤ n := fun h => plain_len h
  have hdl : ∀ {n : Int}, n < 1000000 → (decI n).length ≤ 6 := fun {n} h => dec_len 6 n.toNat (by omega) (by omega)
  unfold linesC at hl
  rcases List.mem_cons.1 hl with rfl | hl
  · have := hdl (n := c.store) (by have := (size_bound hv.st).2; omega)
    unfold storeW kStore
    simp only [List.map_cons, List.map_nil, List.sum_cons, List.sum_nil, List.length_cons, List.length_nil]; omega
  · rcases List.mem_append.1 hl with q | q
    · obtain ⟨p, hp, rfl⟩ := List.mem_map.1 q
      have h := hv.p p hp
      unfold partT at h
      simp only [Bool.and_eq_true] at h
      have h1 := hpl h.1.2
      have := hdl (n := p.size) (by have := (size_bound h.1.1).2; omega)
      unfold partW kPart
      simp only [List.map_cons, List.map_nil, List.sum_cons, List.sum_nil, List.length_cons, List.length_nil]; omega
    · obtain ⟨u, hu, rfl⟩ := List.mem_map.1 q
      have h := hv.u u hu
      have hk := unit_kind h
      have hkl : (kndS u.kind).length ≤ 7 := by
        have : u.kind = 1 ∨ u.kind = 2 ∨ u.kind = 3 ∨ u.kind = 4 ∨ u.kind = 5 := by omega
        rcases this with e | e | e | e | e <;> (rw [e]; decide)
      unfold unitW kUnit hex3
      split
      · rename_i k
        have := hpl (unit_tape h k).1
        simp only [List.map_cons, List.map_nil, List.sum_cons, List.sum_nil, List.length_cons, List.length_nil]; omega
      · split
        · rename_i k
          obtain ⟨e1, e2, e3, e4, e5⟩ := unit_disk h k
          have := hpl e1
          have := hdl (n := u.cyl) (by omega)
          have := hdl (n := u.head) (by omega)
          simp only [List.map_cons, List.map_nil, List.sum_cons, List.sum_nil, List.length_cons, List.length_nil]; omega
        · simp only [List.map_cons, List.map_nil, List.sum_cons, List.sum_nil, List.length_cons, List.length_nil]; omega
end Go.Proofs.YtedbbinlcdgkoaaGreatDoor

/- Layer 19: comments, blanks and the order of lines. No program in sight. -/
namespace Go.Proofs.YtedbbinlcdgkoaaGreatDoor
open Go.Lib
set_option linter.unusedVariables false
set_option linter.unusedSimpArgs false
structure LayI (c : CfgT) (I : List It) (L : List Bs) : Prop where
  t : Both (fun i s => Tells c i (wordsT s)) I L
  s : (I.filterMap stoI).length = 1
  p : I.filterMap prtI = c.ps
  u : (I.filterMap uniI).Perm c.us
  n : ∀ s ∈ L, ∀ x ∈ s, x ≠ 10
  l : ∀ s ∈ L, s.length ≤ 302
theorem Both.len {α γ : Type} {R : α → γ → Prop} : ∀ {a : List α} {b : List γ}, Both R a b → a.length = b.length
  | _, _, .nil => rfl
  | _, _, .cons _ h => by rw [List.length_cons, List.length_cons, h.len]
theorem Both.split {α γ : Type} {R : α → γ → Prop} : ∀ {x y : List γ} {a : List α}, Both R a (x ++ y) → ∃ a1 a2, a = a1 ++ a2 ∧ Both R a1 x ∧ Both R a2 y
  | [], y, a, h => ⟨[], a, rfl, .nil, h⟩
  | z :: x, y, _, .cons (a := u) h1 h => by
    obtain ⟨a1, a2, e, g1, g2⟩ := Both.split (x := x) h
    exact ⟨u :: a1, a2, by rw [e]; rfl, .cons h1 g1, g2⟩
theorem Both.app {α γ : Type} {R : α → γ → Prop} : ∀ {a1 : List α} {x : List γ} {a2 : List α} {y : List γ}, Both R a1 x → Both R a2 y → Both R (a1 ++ a2) (x ++ y)
  | _, _, _, _, .nil, h => h
  | _, _, _, _, .cons h1 h, g => .cons h1 (h.app g)
end Go.Proofs.YtedbbinlcdgkoaaGreatDoor

/- Layer 19: the law's Make. No program in sight. -/
namespace Go.Proofs.YtedbbinlcdgkoaaGreatDoor
open Go.Lib
set_option linter.unusedVariables false
set_option linter.unusedSimpArgs false
theorem val_to {c : CfgT} (h : ValC c) : chkE c = 0 := by
  have hu : unitsT c.us = true := by
    unfold unitsT
    rw [List.all_eq_true]
    intro k hk
    have hk := List.mem_range.1 hk
    unfold unit1T
    rw [getD_us c.us hk, getD_us c.us (show k - 1 < c.us.length by omega), h.u _ (List.getElem_mem hk)]
    have hs := List.pairwise_iff_getElem.1 h.s
    have hd := List.pairwise_iff_getElem.1 h.d
    have e1 : (decide (k = 0) || !decide (c.us[k].addr ≤ (c.us[k-1]'(by omega)).addr)) = true := by
      by_cases q : k = 0
      · rw [decide_eq_true q]; rfl
      · have := hs (k - 1) k (by omega) hk (by omega)
        rw [decide_eq_false (by omega : ¬ c.us[k].addr ≤ (c.us[k-1]'(by omega)).addr)]; simp
    have e2 : ((c.us.take k).any fun u => !decide (u.ser = []) && decide (u.ser = c.us[k].ser)) = false := by
      rw [List.any_eq_false]
      intro x hx
      obtain ⟨j, hj, rfl⟩ := List.getElem_of_mem hx
      rw [List.length_take] at hj
      rw [List.getElem_take]
      have := hd j k (by omega) hk (by omega)
      simp only [Bool.and_eq_true, Bool.not_eq_true', decide_eq_false_iff_not, decide_eq_true_eq]
      rintro ⟨a, b⟩
      exact this ⟨by rw [← b]; exact a, b⟩
    rw [e1, e2]; rfl
  have e3 : formT c = true := by
    have := h.p1; have := h.p4; have := h.n
    unfold formT
    rw [h.st, decide_eq_false (by omega : ¬ (c.ps.length : Int) < 1), decide_eq_false (by omega : ¬ (4 : Int) < c.ps.length), decide_eq_false (by omega : ¬ (16 : Int) < c.us.length)]; rfl
  have e4 : c.ps.all partT = true := List.all_eq_true.2 h.p
  have := h.sum
  unfold chkE cfgT
  rw [e3, e4, hu, decide_eq_false (by omega : ¬ c.store < sumT c.ps)]; rfl
def cls8 : Bs := [65, 66, 55, 67, 90, 48, 88, 89]
def classesT (n : Nat) : Bs := (cls8.take (n % 8 + 1 + n / 8 % (8 - n % 8))).drop (n % 8)
theorem classes_ok : ∀ n < 256, (plainT (classesT n) 8 && uniqT (classesT n)) = true := by decide +kernel
def all36 : Bs := [65, 66, 67, 68, 69, 70, 71, 72, 73, 74, 75, 76, 77, 78, 79, 80, 81, 82, 83, 84, 85, 86, 87, 88, 89, 90, 48, 49, 50, 51, 52, 53, 54, 55, 56, 57]
def ch36 (n : Nat) : UInt8 := all36.getD (n % 36) 0
def serialT (s : Bs) (i : Nat) : Bs := ch36 i :: (s.take 5).map fun c => ch36 c.toNat
theorem ch36_cap (n : Nat) : capC (ch36 n) = true := by
  have : ∀ k < 36, capC (all36.getD k 0) = true := by decide
  exact this (n % 36) (Nat.mod_lt _ (by decide))
theorem ch36_inj : ∀ i < 16, ∀ j < 16, ch36 i = ch36 j → i = j := by decide
theorem serial_ok (s : Bs) (i : Nat) : plainT (serialT s i) 6 = true := by
  unfold plainT serialT
  rw [decide_eq_false (by simp : ¬ (_ :: _ : Bs) = []), List.all_eq_true.2]
  · rw [decide_eq_true]; rfl
    simp only [List.length_cons, List.length_map, List.length_take]; omega
  · intro x hx
    rcases List.mem_cons.1 hx with rfl | hx
    · exact ch36_cap _
    · obtain ⟨c, _, rfl⟩ := List.mem_map.1 hx
      exact ch36_cap _
def modU (a : Int) (m : Nat) : Nat := (a % 18446744073709551616).toNat % m
def partsM : List UInt8 → Nat → List ParT
  | [], _ => []
  | b :: r, left => if left = 0 then [] else ⟨(2048 * (1 + b.toNat % (left / 2048)) : Nat), classesT b.toNat⟩ :: partsM r (left - 2048 * (1 + b.toNat % (left / 2048)))
def mkU (u : UniT) (i : Nat) (addr : Int) : UniT :=
  let k := 1 + modU u.kind 5
  ⟨addr + 1 + (modU u.addr 40 : Nat), (k : Nat), if k = 4 ∨ k = 5 then serialT u.ser i else [], if k = 5 then ((1 + modU u.cyl 64 : Nat) : Int) else 0, if k = 5 then ((1 + modU u.head 8 : Nat) : Int) else 0⟩
def unitsM : List UniT → Nat → Int → List UniT
  | [], _, _ => []
  | u :: r, i, addr => mkU u i addr :: unitsM r (i + 1) (addr + 1 + (modU u.addr 40 : Nat))
def storeM (n : Nat) : Nat := 10240 + 2048 * (n % 28)
def makeT (st : Nat) (ps : List UInt8) (us : List UniT) : CfgT :=
  ⟨unitsM (us.take 16) 0 (-1), (storeM st : Nat), if ps = [] then [⟨2048, [65]⟩] else partsM (ps.take 4) (storeM st - 8192)⟩
theorem modU_lt (a : Int) {m : Nat} (h : 0 < m) : modU a m < m := Nat.mod_lt _ h
theorem mk_parts (u : UniT) (i : Nat) (addr : Int) (ha : -1 ≤ addr ∧ addr ≤ 900) : unitT (mkU u i addr) = true ∧ addr < (mkU u i addr).addr ∧ (mkU u i addr).addr ≤ addr + 40 := by
  have h1 := modU_lt u.addr (show 0 < 40 by decide)
  have h2 := modU_lt u.kind (show 0 < 5 by decide)
  have h3 := modU_lt u.cyl (show 0 < 64 by decide)
  have h4 := modU_lt u.head (show 0 < 8 by decide)
  unfold mkU
  obtain ⟨a, ea⟩ : ∃ a, modU u.addr 40 = a := ⟨_, rfl⟩
  obtain ⟨k, ek⟩ : ∃ k, modU u.kind 5 = k := ⟨_, rfl⟩
  obtain ⟨y, ey⟩ : ∃ y, modU u.cyl 64 = y := ⟨_, rfl⟩
  obtain ⟨z, ez⟩ : ∃ z, modU u.head 8 = z := ⟨_, rfl⟩
  rw [ea] at h1; rw [ek] at h2; rw [ey] at h3; rw [ez] at h4
  rw [ea, ek, ey, ez]
  refine ⟨?_, by simp only; omega, by simp only; omega⟩
  have e1 : (decide (addr + 1 + (a : Int) < 0) || decide (1023 < addr + 1 + (a : Int))) = false := by
    rw [decide_eq_false (by omega), decide_eq_false (by omega)]; rfl
  have hk : k = 0 ∨ k = 1 ∨ k = 2 ∨ k = 3 ∨ k = 4 := by omega
  unfold unitT
  simp only [e1]
  rcases hk with rfl | rfl | rfl | rfl | rfl
  · rfl
  · rfl
  · rfl
  · have := serial_ok u.ser i
    simp [flatT, this]
  · have := serial_ok u.ser i
    simp [flatT, this]; omega
theorem units_make : ∀ (us : List UniT) (i : Nat) (addr : Int), -1 ≤ addr → addr + 40 * us.length ≤ 900 → i + us.length ≤ 16 → (∀ x ∈ unitsM us i addr, unitT x = true ∧ addr < x.addr ∧ (x.ser ≠ [] → ∃ j, i ≤ j ∧ j < 16 ∧ x.ser.head? = some (ch36 j))) ∧ sorT (unitsM us i addr) ∧
    ((unitsM us i addr).Pairwise fun x y => ¬ (y.ser ≠ [] ∧ x.ser = y.ser)) ∧ (unitsM us i addr).length = us.length
  | [], i, addr, _, _, _ => ⟨by simp [unitsM], List.Pairwise.nil, List.Pairwise.nil, rfl⟩
  | u :: us, i, addr, h0, h1, h2 => by
    simp only [List.length_cons] at h1 h2
    obtain ⟨g1, g2, g3⟩ := mk_parts u i addr ⟨h0, by omega⟩
    have hm := modU_lt u.addr (show 0 < 40 by decide)
    obtain ⟨k1, k2, k3, k4⟩ := units_make us (i + 1) (addr + 1 + (modU u.addr 40 : Nat)) (by omega) (by omega) (by omega)
    have hser : (mkU u i addr).ser ≠ [] → (mkU u i addr).ser.head? = some (ch36 i) := by
      intro hq
      unfold mkU at hq ⊢
      simp only at hq ⊢
      split at hq
      · rename_i q; rw [if_pos q]; rfl
      · exact absurd rfl hq
    rw [unitsM]
    refine ⟨fun x hx => ?_, ?_, ?_, by rw [List.length_cons, k4, List.length_cons]⟩
    · rcases List.mem_cons.1 hx with rfl | hx
      · exact ⟨g1, g2, fun hq => ⟨i, Nat.le_refl _, by omega, hser hq⟩⟩
      · obtain ⟨a, b, c⟩ := k1 x hx
        exact ⟨a, by omega, fun hq => by obtain ⟨j, j1, j2, j3⟩ := c hq; exact ⟨j, by omega, j2, j3⟩⟩
    · unfold sorT at k2 ⊢
      rw [List.pairwise_cons]
      exact ⟨fun x hx => by have := (k1 x hx).2.1; exact this, k2⟩
    · rw [List.pairwise_cons]
      refine ⟨fun x hx => ?_, k3⟩
      rintro ⟨q1, q2⟩
      obtain ⟨j, j1, j2, j3⟩ := (k1 x hx).2.2 q1
      have := hser (by rw [q2]; exact q1)
      rw [q2, j3] at this
      injection this with this
      have := ch36_inj j j2 i (by omega) this
      omega
theorem parts_make : ∀ (ps : List UInt8) (m : Nat), m ≤ 30 → (∀ x ∈ partsM ps (2048 * m), partT x = true) ∧ (∀ z : Int, (partsM ps (2048 * m)).foldl (fun z p => z + p.size) z ≤ z + 2048 * m) ∧ (partsM ps (2048 * m)).length ≤ ps.length
  | [], m, _ => ⟨by simp [partsM], fun z => by simp [partsM]; omega, by simp [partsM]⟩
  | b :: ps, m, hm => by
    rw [partsM]
    rcases Nat.eq_zero_or_pos m with rfl | hp
    · rw [if_pos (by omega)]
      exact ⟨by simp, fun z => by simp, by simp⟩
    · rw [if_neg (by omega), Nat.mul_div_cancel_left m (by decide)]
      obtain ⟨r, hr⟩ : ∃ r, b.toNat % m = r := ⟨_, rfl⟩
      have hrm : r < m := by rw [← hr]; exact Nat.mod_lt _ hp
      rw [hr, ← Nat.mul_sub]
      obtain ⟨h1, h2, h3⟩ := parts_make ps (m - (1 + r)) (by omega)
      refine ⟨fun x hx => ?_, fun z => ?_, by rw [List.length_cons, List.length_cons]; omega⟩
      · rcases List.mem_cons.1 hx with rfl | hx
        · have hc := classes_ok b.toNat b.toNat_lt
          rw [Bool.and_eq_true] at hc
          unfold partT sizT
          simp only
          rw [hc.1, hc.2, decide_eq_true (by omega : (2048 : Int) ≤ ((2048 * (1 + r) : Nat) : Int)), decide_eq_true (by omega : ((2048 * (1 + r) : Nat) : Int) ≤ 65536), decide_eq_true (by omega : ((2048 * (1 + r) : Nat) : Int) % 2048 = 0)]
          rfl
        · exact h1 x hx
      · rw [List.foldl_cons]
        have := h2 (z + ((2048 * (1 + r) : Nat) : Int))
        simp only at this ⊢
        omega
theorem make_valid (st : Nat) (ps : List UInt8) (us : List UniT) : chkE (makeT st ps us) = 0 := by
  have hs : storeM st ≤ 65536 ∧ 10240 ≤ storeM st ∧ storeM st % 2048 = 0 := by unfold storeM; have := Nat.mod_lt st (show 0 < 28 by decide); omega
  have hlen : (us.take 16).length ≤ 16 := by rw [List.length_take]; omega
  obtain ⟨u1, u2, u3, u4⟩ := units_make (us.take 16) 0 (-1) (by omega) (by omega) (by omega)
  obtain ⟨p1, p2, p3⟩ := parts_make (ps.take 4) ((storeM st - 8192) / 2048) (by omega)
  have e0 : 2048 * ((storeM st - 8192) / 2048) = storeM st - 8192 := by omega
  rw [e0] at p1 p2 p3
  have hst : sizT ((storeM st : Nat) : Int) = true := by
    unfold sizT
    rw [decide_eq_true (by omega), decide_eq_true (by omega), decide_eq_true (by omega)]; rfl
  refine val_to ⟨hst, ?_, ?_, by show (unitsM _ _ _).length ≤ 16; omega, ?_, fun x hx => (u1 x hx).1, u2, u3, ?_⟩
  all_goals
    unfold makeT
    simp only
    by_cases hp : ps = []
    · first | (rw [if_pos hp]; decide) | (rw [if_pos hp]; intro x hx; rw [List.mem_singleton] at hx; subst hx; decide) | (rw [if_pos hp]; unfold sumT; simp only [List.foldl_cons, List.foldl_nil]; omega)
    · rw [if_neg hp]
      first
        | exact p1
        | (have := p2 8192; unfold sumT; omega)
        | (rw [List.length_take] at p3; omega)
        | (cases ps with
           | nil => exact absurd rfl hp
           | cons b r => rw [List.take_succ_cons, partsM, if_neg (by omega)]; simp)
end Go.Proofs.YtedbbinlcdgkoaaGreatDoor

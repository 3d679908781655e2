import Derived.Lib.ItoaNum
import Derived.Test.YtedbbinlcdgkoaaGreatDoorQS

/- Layer 19: descriptions are written and read again. No program in sight. -/
namespace Go.Proofs.YtedbbinlcdgkoaaGreatDoor
open Go.Lib
set_option linter.unusedVariables false
set_option linter.unusedSimpArgs false
def hexD (n : Nat) : UInt8 := hexS.getD n 0
def hex3 (n : Nat) : Bs := [hexD (n / 256), hexD (n / 16 % 16), hexD (n % 16)]
def kndS (k : Int) : Bs := if k = 1 then [82, 69, 65, 68, 69, 82] else if k = 2 then [80, 85, 78, 67, 72] else if k = 3 then [80, 82, 73, 78, 84, 69, 82] else if k = 4 then [84, 65, 80, 69] else if k = 5 then [68, 73, 83, 75] else []
def decI (n : Int) : Bs := decDigits n.toNat
def unitW (u : UniT) : List Bs := kUnit :: hex3 u.addr.toNat :: kndS u.kind :: (if u.kind = 4 then [u.ser] else if u.kind = 5 then [u.ser, decI u.cyl, decI u.head] else [])
def partW (p : ParT) : List Bs := [kPart, decI p.size, p.cls]
def storeW (n : Int) : List Bs := [kStore, decI n]
def joinW : List Bs → Bs
  | [] => []
  | [x] => x
  | x :: y :: r => x ++ 32 :: joinW (y :: r)
def lineW (l : List Bs) : Bs := joinW l ++ [10]
def linesC (c : CfgT) : List (List Bs) := storeW c.store :: (c.ps.map partW ++ c.us.map unitW)
def printT (c : CfgT) : Bs := ((linesC c).map lineW).flatten
def wrdB (w : Bs) : Bool := !decide (w = []) && w.all fun c => !decide (c = 32) && !decide (c = 10)
theorem wrd_parts {w : Bs} (h : wrdB w = true) : w ≠ [] ∧ ∀ c ∈ w, c ≠ 32 ∧ c ≠ 10 := by
  unfold wrdB at h
  simp only [Bool.and_eq_true, Bool.not_eq_true', decide_eq_false_iff_not, List.all_eq_true] at h
  exact h
theorem fld_word (w : Bs) (hw : w ≠ []) (hb : ∀ c ∈ w, c ≠ 32) (t : Bs) : fldG [] (w ++ 32 :: t) = w :: fldG [] t := by
  rw [fldG_skip w [] _ hb, List.nil_append, fldG, if_pos rfl, if_neg hw]
theorem fld_last (w : Bs) (hw : w ≠ []) (hb : ∀ c ∈ w, c ≠ 32) : fldG [] w = [w] := by
  have := fldG_skip w [] [] hb
  rw [List.append_nil, List.nil_append] at this
  rw [this, fldG, if_neg hw]
theorem words_join : ∀ l : List Bs, (∀ w ∈ l, wrdB w = true) → wordsT (joinW l) = l
  | [], _ => rfl
  | [x], h => by
    have := wrd_parts (h x List.mem_cons_self)
    exact fld_last x this.1 fun c hc => (this.2 c hc).1
  | x :: y :: r, h => by
    have := wrd_parts (h x List.mem_cons_self)
    have ih := words_join (y :: r) fun w hw => h w (List.mem_cons_of_mem _ hw)
    unfold wordsT at ih ⊢
    rw [joinW, fld_word x this.1 fun c hc => (this.2 c hc).1, ih]
theorem join_no10 : ∀ l : List Bs, (∀ w ∈ l, wrdB w = true) → ∀ c ∈ joinW l, c ≠ 10
  | [], _ => by simp [joinW]
  | [x], h => fun c hc => ((wrd_parts (h x List.mem_cons_self)).2 c hc).2
  | x :: y :: r, h => fun c hc => by
    rw [joinW] at hc
    rcases List.mem_append.1 hc with q | q
    · exact ((wrd_parts (h x List.mem_cons_self)).2 c q).2
    · rcases List.mem_cons.1 q with rfl | q
      · decide
      · exact join_no10 (y :: r) (fun w hw => h w (List.mem_cons_of_mem _ hw)) c q
theorem split_lines : ∀ L : List Bs, (∀ s ∈ L, ∀ c ∈ s, c ≠ 10) → splitAtC 10 ((L.map (· ++ [10])).flatten) = L ++ [[]]
  | [], _ => rfl
  | s :: L, h => by
    rw [List.map_cons, List.flatten_cons, List.append_assoc, List.singleton_append, splitAtC_cons 10 s _ (h s List.mem_cons_self), split_lines L fun x hx => h x (List.mem_cons_of_mem _ hx)]
    rfl

theorem dec_dig : ∀ (n : Nat), ∀ c ∈ decDigits n, 48 ≤ c.toNat ∧ c.toNat ≤ 57 := by
  intro n
  induction n using Nat.strongRecOn with
  | _ n ih =>
    intro c hc
    rw [decDigits] at hc
    have key : ∀ d < 10, (UInt8.ofNat (48 + d)).toNat = 48 + d := by decide
    split at hc
    · rename_i hn
      rw [List.mem_singleton] at hc
      subst hc
      have := key n hn; omega
    · rcases List.mem_append.1 hc with q | q
      · exact ih (n / 10) (by omega) c q
      · rw [List.mem_singleton] at q
        subst q
        have := key (n % 10) (by omega); omega
theorem dec_ne (n : Nat) : decDigits n ≠ [] := by
  rw [decDigits]; split <;> simp
theorem dec_len : ∀ (k n : Nat), 1 ≤ k → n < 10 ^ k → (decDigits n).length ≤ k
  | 0, n, h, _ => by omega
  | k + 1, n, _, h => by
    rw [decDigits]
    split
    · simp
    · rename_i hn
      rw [List.length_append, List.length_singleton]
      rcases Nat.eq_zero_or_pos k with rfl | hk
      · omega
      · have := dec_len k (n / 10) hk (by rw [Nat.pow_succ] at h; omega)
        omega
theorem dec_val : ∀ n : Nat, valT (decDigits n) = n := by
  intro n
  induction n using Nat.strongRecOn with
  | _ n ih =>
    have key : ∀ d < 10, (UInt8.ofNat (48 + d)).toNat = 48 + d := by decide
    rw [decDigits]
    split
    · rename_i hn
      unfold valT
      simp only [List.foldl_cons, List.foldl_nil]
      rw [key n hn]; omega
    · have h1 := ih (n / 10) (by omega)
      unfold valT at h1 ⊢
      rw [List.foldl_append, h1]
      simp only [List.foldl_cons, List.foldl_nil]
      rw [key (n % 10) (by omega)]; omega
theorem dec_zero : ∀ n : Nat, 10 ≤ n → (decDigits n).getD 0 0 ≠ 48 := by
  intro n
  induction n using Nat.strongRecOn with
  | _ n ih =>
    intro hn
    have hh : ∀ (a b : Bs), a ≠ [] → (a ++ b).getD 0 0 = a.getD 0 0 := fun a b h => by
      cases a with
      | nil => exact absurd rfl h
      | cons x xs => rfl
    rw [decDigits, dif_neg (by omega), hh _ _ (dec_ne _)]
    by_cases h : n / 10 < 10
    · rw [decDigits, dif_pos h]
      have key : ∀ d < 10, 1 ≤ d → UInt8.ofNat (48 + d) ≠ 48 := by decide
      exact key (n / 10) h (by omega)
    · exact ih (n / 10) (by omega) (by omega)
theorem dec_one {n : Nat} (h : (decDigits n).length ≠ 1) : 10 ≤ n := by
  rcases Nat.lt_or_ge n 10 with q | q
  · exact absurd (by rw [decDigits, dif_pos q]; rfl) h
  · exact q
theorem num_dec {n : Nat} (h : n < 1000000) : numT (decDigits n) = (n : Int) := by
  have hl := dec_len 6 n (by omega) h
  have hne := dec_ne n
  have hd : (decDigits n).all digC = true := by
    rw [List.all_eq_true]
    intro c hc
    have := dec_dig n c hc
    unfold digC
    rw [decide_eq_true this.1, decide_eq_true this.2]; rfl
  have hp : 1 ≤ (decDigits n).length := by cases hq : decDigits n with | nil => exact absurd hq hne | cons => simp
  unfold numT
  rw [hd, decide_eq_false (by omega : ¬ (decDigits n).length < 1), decide_eq_false (by omega : ¬ 6 < (decDigits n).length), dec_val]
  by_cases h1 : 1 < (decDigits n).length
  · have := dec_zero n (dec_one (by omega))
    rw [decide_eq_false this]; simp
  · rw [decide_eq_false h1]; simp
theorem dec_wrd (n : Nat) : wrdB (decDigits n) = true := by
  unfold wrdB
  rw [decide_eq_false (dec_ne n), Bool.not_false, Bool.true_and, List.all_eq_true]
  intro c hc
  have := dec_dig n c hc
  have h1 : c ≠ 32 := fun q => by subst q; exact absurd this (by decide)
  have h2 : c ≠ 10 := fun q => by subst q; exact absurd this (by decide)
  rw [decide_eq_false h1, decide_eq_false h2]; rfl
theorem hex_ok : ∀ n < 1024, addrT (hex3 n) = (n : Int) ∧ wrdB (hex3 n) = true := by decide +kernel
theorem knd_ok {k : Int} (h : 1 ≤ k ∧ k ≤ 5) : kindT (kndS k) = k ∧ wrdB (kndS k) = true := by
  have : k = 1 ∨ k = 2 ∨ k = 3 ∨ k = 4 ∨ k = 5 := by omega
  rcases this with rfl | rfl | rfl | rfl | rfl <;> exact ⟨by decide, by decide⟩
theorem cap_wrd {s : Bs} {n : Nat} (h : plainT s n = true) : wrdB s = true := by
  unfold plainT at h
  simp only [Bool.and_eq_true, Bool.not_eq_true', decide_eq_false_iff_not, List.all_eq_true] at h
  unfold wrdB
  rw [decide_eq_false h.1.1, Bool.not_false, Bool.true_and, List.all_eq_true]
  intro c hc
  have h2 := h.2 c hc
  have h3 : c ≠ 32 := fun q => by subst q; exact absurd h2 (by decide)
  have h4 : c ≠ 10 := fun q => by subst q; exact absurd h2 (by decide)
  rw [decide_eq_false h3, decide_eq_false h4]; rfl
end Go.Proofs.YtedbbinlcdgkoaaGreatDoor

/- Layer 19: a description in any order of its lines. No program in sight. -/
namespace Go.Proofs.YtedbbinlcdgkoaaGreatDoor
open Go.Lib
set_option linter.unusedVariables false
set_option linter.unusedSimpArgs false
structure ValC (c : CfgT) : Prop where
  st : sizT c.store = true
  p1 : 1 ≤ c.ps.length
  p4 : c.ps.length ≤ 4
  n : c.us.length ≤ 16
  p : ∀ x ∈ c.ps, partT x = true
  u : ∀ x ∈ c.us, unitT x = true
  s : sorT c.us
  d : c.us.Pairwise fun x y => ¬ (y.ser ≠ [] ∧ x.ser = y.ser)
  sum : sumT c.ps ≤ c.store
theorem getD_us (us : List UniT) {k : Nat} (h : k < us.length) : us.getD k ⟨0, 0, [], 0, 0⟩ = us[k] := by
  simp [List.getD_eq_getElem?_getD, List.getElem?_eq_getElem h]
theorem units_parts {us : List UniT} (h : unitsT us = true) : (∀ x ∈ us, unitT x = true) ∧ sorT us ∧ us.Pairwise fun x y => ¬ (y.ser ≠ [] ∧ x.ser = y.ser) := by
  unfold unitsT at h
  rw [List.all_eq_true] at h
  have h1 : ∀ k (hk : k < us.length), unitT us[k] = true ∧ (k = 0 ∨ ¬ us[k].addr ≤ (us[k-1]'(by omega)).addr) ∧ ∀ x ∈ us.take k, ¬ (us[k].ser ≠ [] ∧ x.ser = us[k].ser) := fun k hk => by
    have := h k (List.mem_range.2 hk)
    unfold unit1T at this
    rw [getD_us us hk, getD_us us (show k - 1 < us.length by omega)] at this
    simp only [Bool.and_eq_true, Bool.or_eq_true, decide_eq_true_eq, Bool.not_eq_true', decide_eq_false_iff_not, List.any_eq_false] at this
    refine ⟨this.1.1, this.1.2, fun x hx q => this.2 x hx ⟨by rw [q.2]; exact q.1, q.2⟩⟩
  refine ⟨fun x hx => ?_, ?_, ?_⟩
  · obtain ⟨k, hk, rfl⟩ := List.getElem_of_mem hx
    exact (h1 k hk).1
  · have key : ∀ j (hj : j < us.length) i (hi : i < j), (us[i]'(by omega)).addr < us[j].addr := by
      intro j
      induction j with
      | zero => intro _ i hi; omega
      | succ j ih =>
        intro hj i hi
        have h2 := (h1 (j + 1) hj).2.1
        have h3 : (us[j]'(by omega)).addr < us[j + 1].addr := by
          rcases h2 with q | q
          · omega
          · simp only [Nat.add_sub_cancel] at q; omega
        rcases Nat.eq_or_lt_of_le (Nat.le_of_lt_succ hi) with e | e
        · subst e; exact h3
        · have := ih (by omega) i e; omega
    exact List.pairwise_iff_getElem.2 fun i j hi hj hij => key j hj i hij
  · refine List.pairwise_iff_getElem.2 fun i j hi hj hij => ?_
    refine (h1 j hj).2.2 us[i] ?_
    rw [List.mem_iff_getElem]
    exact ⟨i, by rw [List.length_take]; omega, by rw [List.getElem_take]⟩
theorem val_of {c : CfgT} (h : chkE c = 0) : ValC c := by
  have h0 : cfgT c = true := by
    unfold chkE at h
    split at h
    · assumption
    · omega
  unfold cfgT formT at h0
  simp only [Bool.and_eq_true, Bool.not_eq_true', Bool.or_eq_false_iff, decide_eq_false_iff_not, List.all_eq_true, Bool.not_eq_false'] at h0
  obtain ⟨⟨⟨⟨⟨⟨h1, h2⟩, h3⟩, h4⟩, h5⟩, h6⟩, h7⟩ := h0
  obtain ⟨g1, g2, g3⟩ := units_parts h6
  exact ⟨h1, by omega, by omega, by omega, h5, g1, g2, g3, by omega⟩
theorem val_apart {c : CfgT} (h : ValC c) {x y : UniT} (hx : x ∈ c.us) (hy : y ∈ c.us) (hne : x ≠ y) : x.addr ≠ y.addr ∧ ¬ (y.ser ≠ [] ∧ x.ser = y.ser) := by
  obtain ⟨i, hi, rfl⟩ := List.getElem_of_mem hx
  obtain ⟨j, hj, rfl⟩ := List.getElem_of_mem hy
  have hs := List.pairwise_iff_getElem.1 h.s
  have hd := List.pairwise_iff_getElem.1 h.d
  rcases Nat.lt_trichotomy i j with q | q | q
  · have := hs i j hi hj q
    exact ⟨by omega, hd i j hi hj q⟩
  · subst q; exact absurd rfl hne
  · have := hs j i hj hi q
    have h3 := hd j i hj hi q
    exact ⟨by omega, fun z => h3 ⟨by rw [z.2]; exact z.1, z.2.symm⟩⟩
theorem sor_ext : ∀ a b : List UniT, sorT a → sorT b → (∀ u, u ∈ a ↔ u ∈ b) → a = b
  | [], [], _, _, _ => rfl
  | [], y :: b, _, _, h => by have := (h y).2 List.mem_cons_self; cases this
  | x :: a, [], _, _, h => by have := (h x).1 List.mem_cons_self; cases this
  | x :: a, y :: b, ha, hb, h => by
    unfold sorT at ha hb
    rw [List.pairwise_cons] at ha hb
    have hxy : x = y := by
      rcases List.mem_cons.1 ((h x).1 List.mem_cons_self) with q | q
      · exact q
      · rcases List.mem_cons.1 ((h y).2 List.mem_cons_self) with r | r
        · exact r.symm
        · have := hb.1 x q; have := ha.1 y r; omega
    subst hxy
    congr 1
    refine sor_ext a b ha.2 hb.2 fun u => ⟨fun q => ?_, fun q => ?_⟩
    · rcases List.mem_cons.1 ((h u).1 (List.mem_cons_of_mem _ q)) with r | r
      · subst r; have := ha.1 u q; omega
      · exact r
    · rcases List.mem_cons.1 ((h u).2 (List.mem_cons_of_mem _ q)) with r | r
      · subst r; have := hb.1 u q; omega
      · exact r

def runT : CfgT → List (List Bs) → Option CfgT
  | c, [] => some c
  | c, ws :: r => match (if voidT ws then some c else lineT c ws) with
    | some c' => runT c' r
    | none => none
theorem go_run : ∀ (L : List Bs) (c : CfgT) (k : Nat) (c' : CfgT), runT c (L.map wordsT) = some c' → goT c L k = (c', 0)
  | [], c, k, c', h => by injection h with h; subst h; rfl
  | s :: L, c, k, c', h => by
    rw [List.map_cons, runT] at h
    rw [goT]
    unfold stepT
    split at h
    · rename_i c1 e
      rw [e]
      exact go_run L c1 (k + 1) c' h
    · cases h
theorem run_app : ∀ (a b : List (List Bs)) (c c' : CfgT), runT c a = some c' → runT c (a ++ b) = runT c' b
  | [], b, c, c', h => by injection h with h; subst h; rfl
  | ws :: a, b, c, c', h => by
    rw [runT] at h
    rw [List.cons_append, runT]
    split at h
    · rename_i c1 e
      exact run_app a b c1 c' h
    · cases h

inductive Both {α γ : Type} (R : α → γ → Prop) : List α → List γ → Prop
  | nil : Both R [] []
  | cons {a : α} {b : γ} {l₁ : List α} {l₂ : List γ} : R a b → Both R l₁ l₂ → Both R (a :: l₁) (b :: l₂)
inductive It where
  | void
  | store
  | part (p : ParT)
  | unit (u : UniT)
def Tells (c : CfgT) (i : It) (ws : List Bs) : Prop := match i with
  | .void => voidT ws = true
  | .store => ws = storeW c.store
  | .part p => ws = partW p
  | .unit u => ws = unitW u
def prtI : It → Option ParT
  | .part p => some p
  | _ => none
def uniI : It → Option UniT
  | .unit u => some u
  | _ => none
def stoI : It → Option Unit
  | .store => some ()
  | _ => none
theorem size_bound {n : Int} (h : sizT n = true) : 2048 ≤ n ∧ n ≤ 65536 := by
  unfold sizT at h
  simp only [Bool.and_eq_true, decide_eq_true_eq] at h
  exact h.1
theorem num_size {n : Int} (h : sizT n = true) : numT (decI n) = n := by
  have := size_bound h
  unfold decI
  rw [num_dec (by omega)]; omega
theorem line_store (c : CfgT) {n : Int} (h : sizT n = true) (h0 : c.store = 0) : voidT (storeW n) = false ∧ lineT c (storeW n) = some { c with store := n } := by
  refine ⟨rfl, ?_⟩
  unfold lineT storeT storeW
  simp only [List.headD_cons, if_true, List.length_cons, List.length_nil, List.getD_cons_succ, List.getD_cons_zero, num_size h, h, h0]
  rfl
theorem line_part (c : CfgT) {p : ParT} (h : partT p = true) (h4 : c.ps.length < 4) : voidT (partW p) = false ∧ lineT c (partW p) = some { c with ps := c.ps ++ [p] } := by
  refine ⟨rfl, ?_⟩
  have hs : sizT p.size = true := by unfold partT at h; simp only [Bool.and_eq_true] at h; exact h.1.1
  have hl : lpT (partW p) = p := by
    unfold lpT partW
    simp only [List.getD_cons_succ, List.getD_cons_zero, num_size hs]
  have e4 : decide ((4 : Int) ≤ c.ps.length) = false := decide_eq_false (by omega)
  have hhd : (partW p).headD [] = kPart := rfl
  have hlen : (partW p).length = 3 := rfl
  unfold lineT lpartT
  rw [hl, h, e4, hhd, hlen, if_neg (by decide), if_pos rfl]
  rfl
theorem unit_kind {u : UniT} (h : unitT u = true) : 1 ≤ u.kind ∧ u.kind ≤ 5 := by
  unfold unitT at h
  rw [Bool.and_eq_true] at h
  have h2 := h.2
  split at h2
  · rename_i q; rcases q with q | q | q <;> omega
  · split at h2
    · omega
    · split at h2
      · omega
      · cases h2
theorem unit_flat {u : UniT} (h : unitT u = true) (hk : u.kind ≤ 3) : u.ser = [] ∧ u.cyl = 0 ∧ u.head = 0 := by
  have hk1 := (unit_kind h).1
  unfold unitT at h
  rw [Bool.and_eq_true] at h
  have h2 := h.2
  rw [if_pos (by omega)] at h2
  unfold flatT at h2
  simp only [Bool.and_eq_true, decide_eq_true_eq] at h2
  exact ⟨h2.1, h2.2.1, h2.2.2⟩
theorem unit_tape {u : UniT} (h : unitT u = true) (hk : u.kind = 4) : plainT u.ser 6 = true ∧ u.cyl = 0 ∧ u.head = 0 := by
  unfold unitT at h
  rw [Bool.and_eq_true] at h
  have h2 := h.2
  rw [if_neg (by omega), if_pos hk] at h2
  unfold flatT at h2
  simp only [Bool.and_eq_true, decide_eq_true_eq] at h2
  exact ⟨h2.1, h2.2.1, h2.2.2⟩
theorem unit_disk {u : UniT} (h : unitT u = true) (hk : u.kind = 5) : plainT u.ser 6 = true ∧ 1 ≤ u.cyl ∧ u.cyl ≤ 64 ∧ 1 ≤ u.head ∧ u.head ≤ 8 := by
  unfold unitT at h
  rw [Bool.and_eq_true] at h
  have h2 := h.2
  rw [if_neg (by omega), if_neg (by omega), if_pos hk] at h2
  simp only [Bool.and_eq_true, decide_eq_true_eq] at h2
  exact ⟨h2.1.1.1.1, h2.1.1.1.2, h2.1.1.2, h2.1.2, h2.2⟩
theorem unit_read {u : UniT} (h : unitT u = true) : unitL (unitW u) = u ∧ (unitW u).length = wantT (kindT ((unitW u).getD 2 [])) := by
  have hk := unit_kind h
  have ha := unit_addr h
  have hx := (hex_ok u.addr.toNat (by omega)).1
  have hd := (knd_ok hk).1
  have hx2 : addrT (hex3 u.addr.toNat) = u.addr := by rw [hx]; omega
  unfold unitL unitW
  simp only [List.getD_cons_succ, List.getD_cons_zero, hd, hx2]
  obtain ⟨a, k, s, y, z⟩ := u
  simp only at hk
  have : k = 1 ∨ k = 2 ∨ k = 3 ∨ k = 4 ∨ k = 5 := by omega
  rcases this with rfl | rfl | rfl | rfl | rfl
  · obtain ⟨e1, e2, e3⟩ := unit_flat h (by simp); simp only at e1 e2 e3; subst e1; subst e2; subst e3; exact ⟨rfl, rfl⟩
  · obtain ⟨e1, e2, e3⟩ := unit_flat h (by simp); simp only at e1 e2 e3; subst e1; subst e2; subst e3; exact ⟨rfl, rfl⟩
  · obtain ⟨e1, e2, e3⟩ := unit_flat h (by simp); simp only at e1 e2 e3; subst e1; subst e2; subst e3; exact ⟨rfl, rfl⟩
  · obtain ⟨e1, e2, e3⟩ := unit_tape h rfl; simp only at e2 e3; subst e2; subst e3; exact ⟨rfl, rfl⟩
  · obtain ⟨e1, e2, e3, e4, e5⟩ := unit_disk h rfl
    simp only at e2 e3 e4 e5
    have n1 : numT (decI y) = y := by unfold decI; rw [num_dec (by omega)]; omega
    have n2 : numT (decI z) = z := by unfold decI; rw [num_dec (by omega)]; omega
    refine ⟨?_, rfl⟩
    show UniT.mk a 5 s (numT (decI y)) (numT (decI z)) = _
    rw [n1, n2]
theorem line_unit (c : CfgT) {u : UniT} (h : unitT u = true) (hn : c.us.length < 16) (ha : ∀ x ∈ c.us, x.addr ≠ u.addr ∧ ¬ (u.ser ≠ [] ∧ x.ser = u.ser)) :
    voidT (unitW u) = false ∧ lineT c (unitW u) = some { c with us := c.us.take (posT c.us u.addr) ++ u :: c.us.drop (posT c.us u.addr) } := by
  refine ⟨rfl, ?_⟩
  obtain ⟨e1, e2⟩ := unit_read h
  have e3 : (c.us[posT c.us u.addr]?.any fun x => decide (x.addr = u.addr)) = false := by
    cases q : c.us[posT c.us u.addr]? with
    | none => rfl
    | some x =>
      have := (ha x (List.mem_of_getElem? q)).1
      rw [Option.any_some]; exact decide_eq_false this
  have e4 : c.us.any (sameT u) = false := by
    rw [List.any_eq_false]
    intro x hx
    have := (ha x hx).2
    unfold sameT
    simp only [Bool.and_eq_true, Bool.not_eq_true', decide_eq_false_iff_not, decide_eq_true_eq]
    exact this
  have hhd : (unitW u).headD [] = kUnit := rfl
  have hlen : 3 ≤ (unitW u).length := by unfold unitW; simp
  unfold lineT lunitT
  rw [hhd, e1, ← e2, e3, e4, h, if_neg (by decide), if_neg (by decide), if_pos rfl, decide_eq_true rfl, decide_eq_true hn, decide_eq_true hlen]
  rfl
theorem void_run (c : CfgT) {ws : List Bs} (h : voidT ws = true) (r : List (List Bs)) : runT c (ws :: r) = runT c r := by rw [runT, if_pos h]
theorem line_run (c : CfgT) {ws : List Bs} {c' : CfgT} (h : voidT ws = false ∧ lineT c ws = some c') (r : List (List Bs)) : runT c (ws :: r) = runT c' r := by
  rw [runT, if_neg (by rw [h.1]; decide), h.2]
theorem run_items {c : CfgT} (hv : ValC c) : ∀ (I : List It) (W : List (List Bs)) (z : CfgT), Both (Tells c) I W → InvC z →
    (I.filterMap stoI).length ≤ 1 → (if I.filterMap stoI = [] then z.store = c.store else z.store = 0) → z.ps ++ I.filterMap prtI = c.ps →
    (I.filterMap uniI).Nodup → (∀ u ∈ I.filterMap uniI, u ∈ c.us ∧ u ∉ z.us) → (∀ u ∈ z.us, u ∈ c.us) → (∀ u ∈ c.us, u ∈ z.us ∨ u ∈ I.filterMap uniI) → z.us.length + (I.filterMap uniI).length = c.us.length → runT z W = some c
  | [], W, z, hW, hi, h1, h2, h3, h4, h5, h6, h7, h8 => by
    cases hW
    have e1 : z.store = c.store := h2
    have e2 : z.ps = c.ps := by rw [← h3]; simp
    have e3 : z.us = c.us := sor_ext _ _ hi.s hv.s fun u => ⟨h6 u, fun q => (h7 u q).resolve_right (by simp)⟩
    rw [runT]
    congr 1
    cases z; cases c; simp only at e1 e2 e3; subst e1; subst e2; subst e3; rfl
  | .void :: I, _, z, .cons (b := ws) (l₂ := W) hw hW, hi, h1, h2, h3, h4, h5, h6, h7, h8 => by
    rw [void_run z hw]
    exact run_items hv I W z hW hi h1 h2 h3 h4 h5 h6 h7 h8
  | .store :: I, _, z, .cons (b := ws) (l₂ := W) hw hW, hi, h1, h2, h3, h4, h5, h6, h7, h8 => by
    have hw : ws = storeW c.store := hw
    subst hw
    have e0 : (It.store :: I).filterMap stoI = () :: I.filterMap stoI := rfl
    rw [e0] at h1 h2
    have e1 : I.filterMap stoI = [] := List.length_eq_zero_iff.1 (by simp only [List.length_cons] at h1; omega)
    rw [line_run z (line_store z hv.st (by simpa using h2))]
    refine run_items hv I W _ hW ⟨hi.n, hi.s, hi.b, hi.p⟩ (by rw [e1]; simp) (by rw [e1]; rfl) h3 h4 h5 h6 h7 h8
  | .part p :: I, _, z, .cons (b := ws) (l₂ := W) hw hW, hi, h1, h2, h3, h4, h5, h6, h7, h8 => by
    have hw : ws = partW p := hw
    subst hw
    have e0 : (It.part p :: I).filterMap prtI = p :: I.filterMap prtI := rfl
    rw [e0] at h3
    have hp : p ∈ c.ps := by rw [← h3]; simp
    have hl : z.ps.length < 4 := by
      have := congrArg List.length h3
      simp only [List.length_append, List.length_cons] at this
      have := hv.p4; omega
    rw [line_run z (line_part z (hv.p p hp) hl)]
    refine run_items hv I W _ hW ⟨hi.n, hi.s, hi.b, by simp only [List.length_append, List.length_cons, List.length_nil]; omega⟩ h1 h2 (by rw [← h3]; simp) h4 h5 h6 h7 h8
  | .unit u :: I, _, z, .cons (b := ws) (l₂ := W) hw hW, hi, h1, h2, h3, h4, h5, h6, h7, h8 => by
    have hw : ws = unitW u := hw
    subst hw
    have e0 : (It.unit u :: I).filterMap uniI = u :: I.filterMap uniI := rfl
    rw [e0] at h4 h5 h7 h8
    rw [List.nodup_cons] at h4
    obtain ⟨hu, hnu⟩ := h5 u List.mem_cons_self
    have hun := hv.u u hu
    have hlen : z.us.length < 16 := by have := hv.n; simp only [List.length_cons] at h8; omega
    have hap : ∀ x ∈ z.us, x.addr ≠ u.addr ∧ ¬ (u.ser ≠ [] ∧ x.ser = u.ser) := fun x hx => val_apart hv (h6 x hx) hu (fun q => hnu (q ▸ hx))
    have hline := line_unit z hun hlen hap
    have hi' := inv_line hi hline.2
    rw [line_run z hline]
    have hmem : ∀ x, x ∈ z.us.take (posT z.us u.addr) ++ u :: z.us.drop (posT z.us u.addr) ↔ x = u ∨ x ∈ z.us := fun x => by
      have : x ∈ z.us ↔ x ∈ z.us.take (posT z.us u.addr) ∨ x ∈ z.us.drop (posT z.us u.addr) := by
        rw [← List.mem_append, List.take_append_drop]
      rw [this, List.mem_append, List.mem_cons]
      constructor
      · rintro (q | q | q)
        · exact .inr (.inl q)
        · exact .inl q
        · exact .inr (.inr q)
      · rintro (q | q | q)
        · exact .inr (.inl q)
        · exact .inl q
        · exact .inr (.inr q)
    refine run_items hv I W _ hW hi' h1 h2 h3 h4.2 (fun x hx => ⟨(h5 x (List.mem_cons_of_mem _ hx)).1, fun q => ?_⟩) (fun x hx => ?_) (fun x hx => ?_) ?_
    · rcases (hmem x).1 q with q | q
      · subst q; exact h4.1 hx
      · exact (h5 x (List.mem_cons_of_mem _ hx)).2 q
    · rcases (hmem x).1 hx with q | q
      · subst q; exact hu
      · exact h6 x q
    · rcases h7 x hx with q | q
      · exact .inl ((hmem x).2 (.inr q))
      · rcases List.mem_cons.1 q with q | q
        · exact .inl ((hmem x).2 (.inl q))
        · exact .inr q
    · simp only [List.length_append, List.length_cons, List.length_take, List.length_drop] at h8 ⊢
      have := pos_le z.us u.addr
      omega
theorem parse_items {c : CfgT} (hv : chkE c = 0) (I : List It) (L : List Bs) (hT : Both (fun i s => Tells c i (wordsT s)) I L) (hs : (I.filterMap stoI).length = 1) (hp : I.filterMap prtI = c.ps) (hu : (I.filterMap uniI).Perm c.us)
    (h10 : ∀ s ∈ L, ∀ x ∈ s, x ≠ 10) (hlen : ((L.map (· ++ [10])).flatten).length ≤ 65536) : parseT ((L.map (· ++ [10])).flatten) = (c, 0, 0) := by
  have hval := val_of hv
  have hnd : c.us.Nodup := hval.s.imp fun {a b} h q => by subst q; omega
  have hW : Both (Tells c) I (L.map wordsT) := by
    clear hs hp hu h10 hlen
    induction hT with
    | nil => exact .nil
    | cons h _ ih => exact .cons h ih
  have hrun : runT zeroC (L.map wordsT) = some c := by
    refine run_items hval I _ zeroC hW inv_zero (by omega) ?_ hp (hu.nodup_iff.2 hnd) (fun u h => ⟨hu.mem_iff.1 h, by simp [zeroC]⟩) (by simp [zeroC]) (fun u h => .inr (hu.mem_iff.2 h)) (by rw [hu.length_eq]; simp [zeroC])
    rw [if_neg (fun q => by rw [q] at hs; simp at hs)]; rfl
  have hgo : goT zeroC (splitAtC 10 ((L.map (· ++ [10])).flatten)) 0 = (c, 0) := by
    rw [split_lines L h10]
    refine go_run _ _ _ _ ?_
    rw [List.map_append, run_app _ _ _ _ hrun]
    rfl
  unfold parseT
  rw [if_neg (by omega), hgo]
  simp only [if_pos, hv]
def itemsC (c : CfgT) : List It := .store :: (c.ps.map .part ++ c.us.map .unit)
theorem items_part (c : CfgT) : (itemsC c).filterMap prtI = c.ps := by
  have h1 : ∀ l : List ParT, (l.map It.part).filterMap prtI = l := fun l => by induction l with | nil => rfl | cons x l ih => rw [List.map_cons, List.filterMap_cons]; simp only [prtI, ih]
  have h2 : ∀ l : List UniT, (l.map It.unit).filterMap prtI = [] := fun l => by induction l with | nil => rfl | cons x l ih => rw [List.map_cons, List.filterMap_cons]; simp only [prtI, ih]
  unfold itemsC
  rw [List.filterMap_cons, List.filterMap_append, h1, h2]; simp [prtI]
theorem items_unit (c : CfgT) : (itemsC c).filterMap uniI = c.us := by
  have h1 : ∀ l : List UniT, (l.map It.unit).filterMap uniI = l := fun l => by induction l with | nil => rfl | cons x l ih => rw [List.map_cons, List.filterMap_cons]; simp only [uniI, ih]
  have h2 : ∀ l : List ParT, (l.map It.part).filterMap uniI = [] := fun l => by induction l with | nil => rfl | cons x l ih => rw [List.map_cons, List.filterMap_cons]; simp only [uniI, ih]
  unfold itemsC
  rw [List.filterMap_cons, List.filterMap_append, h1, h2]; simp [uniI]
theorem items_store (c : CfgT) : (itemsC c).filterMap stoI = [()] := by
  have h1 : ∀ l : List UniT, (l.map It.unit).filterMap stoI = [] := fun l => by induction l with | nil => rfl | cons x l ih => rw [List.map_cons, List.filterMap_cons]; simp only [stoI, ih]
  have h2 : ∀ l : List ParT, (l.map It.part).filterMap stoI = [] := fun l => by induction l with | nil => rfl | cons x l ih => rw [List.map_cons, List.filterMap_cons]; simp only [stoI, ih]
  unfold itemsC
  rw [List.filterMap_cons, List.filterMap_append, h1, h2]; rfl
def itemW (c : CfgT) : It → List Bs
  | .void => []
  | .store => storeW c.store
  | .part p => partW p
  | .unit u => unitW u
theorem lines_items (c : CfgT) : linesC c = (itemsC c).map (itemW c) := by
  unfold linesC itemsC
  rw [List.map_cons, List.map_append, List.map_map, List.map_map]
  rfl
theorem lines_wrd {c : CfgT} (hv : ValC c) : ∀ l ∈ linesC c, ∀ w ∈ l, wrdB w = true := by
  intro l hl w hw
  unfold linesC at hl
  rcases List.mem_cons.1 hl with rfl | hl
  · unfold storeW at hw
    simp only [List.mem_cons, List.not_mem_nil, or_false] at hw
    rcases hw with rfl | rfl
    · decide
    · exact dec_wrd _
  · rcases List.mem_append.1 hl with q | q
    · obtain ⟨p, hp, rfl⟩ := List.mem_map.1 q
      have h := hv.p p hp
      unfold partT at h
      simp only [Bool.and_eq_true] at h
      unfold partW at hw
      simp only [List.mem_cons, List.not_mem_nil, or_false] at hw
      rcases hw with rfl | rfl | rfl
      · decide
      · exact dec_wrd _
      · exact cap_wrd h.1.2
    · obtain ⟨u, hu, rfl⟩ := List.mem_map.1 q
      have h := hv.u u hu
      have ha := unit_addr h
      unfold unitW at hw
      rcases List.mem_cons.1 hw with rfl | hw
      · decide
      rcases List.mem_cons.1 hw with rfl | hw
      · exact (hex_ok _ (by omega)).2
      rcases List.mem_cons.1 hw with rfl | hw
      · exact (knd_ok (unit_kind h)).2
      split at hw
      · rename_i k
        rw [List.mem_singleton] at hw; subst hw
        exact cap_wrd (unit_tape h k).1
      · split at hw
        · rename_i k
          simp only [List.mem_cons, List.not_mem_nil, or_false] at hw
          rcases hw with rfl | rfl | rfl
          · exact cap_wrd (unit_disk h k).1
          · exact dec_wrd _
          · exact dec_wrd _
        · cases hw
theorem join_len : ∀ l : List Bs, (joinW l).length ≤ (l.map fun w => w.length + 1).sum
  | [] => by simp [joinW]
  | [x] => by simp [joinW]
  | x :: y :: r => by
    have := join_len (y :: r)
    rw [joinW, List.map_cons, List.sum_cons, List.length_append, List.length_cons]; omega
theorem line_len {c : CfgT} (hv : ValC c) : ∀ l ∈ linesC c, (joinW l).length ≤ 50 := by
  intro l hl
  refine Nat.le_trans (join_len l) ?_
  have hpl : ∀ {s n}, plainT s n = true → s.length ≤ n := fun h => plain_len h
  have hdl : ∀ {n : Int}, n < 1000000 → (decI n).length ≤ 6 := fun {n} h => dec_len 6 n.toNat (by omega) (by omega)
  unfold linesC at hl
  rcases List.mem_cons.1 hl with rfl | hl
  · have := hdl (n := c.store) (by have := (size_bound hv.st).2; omega)
    unfold storeW kStore
    simp only [List.map_cons, List.map_nil, List.sum_cons, List.sum_nil, List.length_cons, List.length_nil]; omega
  · rcases List.mem_append.1 hl with q | q
    · obtain ⟨p, hp, rfl⟩ := List.mem_map.1 q
      have h := hv.p p hp
      unfold partT at h
      simp only [Bool.and_eq_true] at h
      have h1 := hpl h.1.2
      have := hdl (n := p.size) (by have := (size_bound h.1.1).2; omega)
      unfold partW kPart
      simp only [List.map_cons, List.map_nil, List.sum_cons, List.sum_nil, List.length_cons, List.length_nil]; omega
    · obtain ⟨u, hu, rfl⟩ := List.mem_map.1 q
      have h := hv.u u hu
      have hk := unit_kind h
      have hkl : (kndS u.kind).length ≤ 7 := by
        have : u.kind = 1 ∨ u.kind = 2 ∨ u.kind = 3 ∨ u.kind = 4 ∨ u.kind = 5 := by omega
        rcases this with e | e | e | e | e <;> (rw [e]; decide)
      unfold unitW kUnit hex3
      split
      · rename_i k
        have := hpl (unit_tape h k).1
        simp only [List.map_cons, List.map_nil, List.sum_cons, List.sum_nil, List.length_cons, List.length_nil]; omega
      · split
        · rename_i k
          obtain ⟨e1, e2, e3, e4, e5⟩ := unit_disk h k
          have := hpl e1
          have := hdl (n := u.cyl) (by omega)
          have := hdl (n := u.head) (by omega)
          simp only [List.map_cons, List.map_nil, List.sum_cons, List.sum_nil, List.length_cons, List.length_nil]; omega
        · simp only [List.map_cons, List.map_nil, List.sum_cons, List.sum_nil, List.length_cons, List.length_nil]; omega
theorem fls_len : ∀ (L : List Bs) (k : Nat), (∀ s ∈ L, s.length ≤ k) → ((L.map (· ++ [10])).flatten).length ≤ L.length * (k + 1)
  | [], k, _ => by simp
  | s :: L, k, h => by
    have ih := fls_len L k fun x hx => h x (List.mem_cons_of_mem _ hx)
    have := h s List.mem_cons_self
    rw [List.map_cons, List.flatten_cons, List.length_append, List.length_append, List.length_cons, List.length_nil, List.length_cons, Nat.succ_mul]; omega
theorem lines_len {c : CfgT} (hv : ValC c) : (linesC c).length ≤ 21 := by
  unfold linesC
  rw [List.length_cons, List.length_append, List.length_map, List.length_map]
  have := hv.p4; have := hv.n; omega
theorem print_lines (c : CfgT) : printT c = (((linesC c).map joinW).map (· ++ [10])).flatten := by
  unfold printT
  rw [List.map_map]; rfl
theorem print_len {c : CfgT} (h : chkE c = 0) : (printT c).length ≤ 1100 := by
  have hv := val_of h
  rw [print_lines]
  have h1 := fls_len ((linesC c).map joinW) 50 (fun s hs => by obtain ⟨l, hl, rfl⟩ := List.mem_map.1 hs; exact line_len hv l hl)
  have := lines_len hv
  rw [List.length_map] at h1
  have : (linesC c).length * 51 ≤ 21 * 51 := Nat.mul_le_mul_right _ this
  omega
theorem tells_lines {c : CfgT} (hv : ValC c) : Both (fun i s => Tells c i (wordsT s)) (itemsC c) ((linesC c).map joinW) := by
  have hw := lines_wrd hv
  rw [lines_items] at hw ⊢
  have hno : ∀ i ∈ itemsC c, i ≠ .void := by
    intro i hi q
    subst q
    unfold itemsC at hi
    simp at hi
  generalize itemsC c = I at hw hno
  clear hv
  induction I with
  | nil => exact .nil
  | cons i I ih =>
    refine .cons ?_ (ih (fun l hl => hw l (List.mem_cons_of_mem _ hl)) (fun x hx => hno x (List.mem_cons_of_mem _ hx)))
    have := words_join (itemW c i) (hw _ List.mem_cons_self)
    cases i with
    | void => exact absurd rfl (hno _ List.mem_cons_self)
    | store => exact this
    | part p => exact this
    | unit u => exact this
theorem lines_no10 {c : CfgT} (hv : ValC c) : ∀ s ∈ (linesC c).map joinW, ∀ x ∈ s, x ≠ 10 := fun s hs => by
  obtain ⟨l, hl, rfl⟩ := List.mem_map.1 hs
  exact join_no10 l (lines_wrd hv l hl)
end Go.Proofs.YtedbbinlcdgkoaaGreatDoor

/- Layer 19: comments, blanks and the order of lines. No program in sight. -/
namespace Go.Proofs.YtedbbinlcdgkoaaGreatDoor
open Go.Lib
set_option linter.unusedVariables false
set_option linter.unusedSimpArgs false
def wideT (s : Bs) : Bs := 32 :: s.flatMap (fun c => if c = 32 then [32, 32, 32] else [c]) ++ [32]
theorem fld_wide : ∀ (s cur : Bs), fldG cur (s.flatMap (fun c => if c = 32 then [32, 32, 32] else [c]) ++ [32]) = fldG cur s
  | [], cur => by
    rw [List.flatMap_nil, List.nil_append]
    show (if (32 : UInt8) = 32 then (if cur = [] then fldG [] [] else cur :: fldG [] []) else _) = if cur = [] then [] else [cur]
    rw [if_pos rfl]; rfl
  | c :: s, cur => by
    rw [List.flatMap_cons, List.append_assoc]
    by_cases h : c = 32
    · rw [if_pos h]
      have ih := fld_wide s []
      obtain ⟨Z, hZ⟩ : ∃ Z, s.flatMap (fun c => if c = 32 then [32, 32, 32] else [c]) ++ [32] = Z := ⟨_, rfl⟩
      rw [hZ] at ih ⊢
      show fldG cur (32 :: 32 :: 32 :: Z) = _
      rw [fldG, if_pos rfl, fldG, if_pos rfl, if_pos rfl, fldG, if_pos rfl, if_pos rfl, ih]
      rw [fldG, if_pos h]
    · rw [if_neg h, List.singleton_append, fldG, if_neg h, fld_wide s, fldG, if_neg h]
theorem words_wide (s : Bs) : wordsT (wideT s) = wordsT s := by
  unfold wordsT wideT
  rw [List.cons_append, fldG, if_pos rfl, if_pos rfl, fld_wide]
def rem0 : Bs := [32, 32]
def rem1 : Bs := [42, 32, 83, 84, 79, 82, 69, 32, 53]
def rem2 : Bs := [32, 32, 32, 42, 80, 65, 82, 84]
def remarkT (n : Nat) : Bs := if n / 4 % 3 = 0 then rem0 else if n / 4 % 3 = 1 then rem1 else rem2
theorem remark_void (n : Nat) : voidT (wordsT (remarkT n)) = true ∧ (remarkT n).length ≤ 9 ∧ ∀ c ∈ remarkT n, c ≠ 10 := by
  unfold remarkT
  split
  · decide
  · split <;> decide
def headT (s : Bs) : Bool := decide (4 < (s.dropWhile (· == 32)).length) && decide ((s.dropWhile (· == 32)).take 5 = [80, 65, 82, 84, 32])
theorem fld_two : ∀ (s cur w x : Bs) (r : List Bs), cur ≠ [] → fldG cur s = w :: x :: r → ∃ t, cur ++ s = w ++ 32 :: t
  | [], cur, w, x, r, hc, h => by rw [fldG, if_neg hc] at h; injection h with _ h; cases h
  | c :: s, cur, w, x, r, hc, h => by
    rw [fldG] at h
    by_cases e : c = 32
    · rw [if_pos e, if_neg hc] at h
      injection h with h _
      exact ⟨s, by rw [h, e]⟩
    · rw [if_neg e] at h
      obtain ⟨t, ht⟩ := fld_two s (cur ++ [c]) w x r (by simp) h
      exact ⟨t, by rw [← ht]; simp⟩
theorem drop_two : ∀ (s w x : Bs) (r : List Bs), fldG [] s = w :: x :: r → ∃ t, s.dropWhile (· == 32) = w ++ 32 :: t
  | [], w, x, r, h => by rw [fldG, if_pos rfl] at h; cases h
  | c :: s, w, x, r, h => by
    rw [fldG] at h
    by_cases e : c = 32
    · rw [if_pos e, if_pos rfl] at h
      obtain ⟨t, ht⟩ := drop_two s w x r h
      exact ⟨t, by rw [List.dropWhile_cons, if_pos (by rw [e]; rfl)]; exact ht⟩
    · rw [if_neg e] at h
      obtain ⟨t, ht⟩ := fld_two s [c] w x r (by simp) h
      exact ⟨t, by rw [List.dropWhile_cons, if_neg (by simpa using e)]; exact ht⟩
theorem head_part {s : Bs} {p : ParT} (h : wordsT s = partW p) : headT s = true := by
  obtain ⟨t, ht⟩ := drop_two s _ _ _ h
  unfold headT
  rw [ht]
  unfold kPart
  simp only [List.cons_append, List.nil_append, List.length_cons]
  rw [decide_eq_true (by omega)]
  rfl
def swapT (l : List Bs) (k : Nat) : List Bs := (l.set k (l.getD (k + 1) [])).set (k + 1) (l.getD k [])
def moveT (l : List Bs) (n : Nat) : List Bs :=
  if n % 4 = 0 then (if (l.getD (n / 4 % l.length) []).length ≤ 100 then l.set (n / 4 % l.length) (wideT (l.getD (n / 4 % l.length) [])) else l)
  else if n % 4 = 1 then l.take (n / 4 % l.length) ++ remarkT n :: l.drop (n / 4 % l.length)
  else if n / 4 % l.length + 1 < l.length ∧ ¬ (headT (l.getD (n / 4 % l.length) []) = true ∧ headT (l.getD (n / 4 % l.length + 1) []) = true) then swapT l (n / 4 % l.length) else l
def layT : List Bs → List UInt8 → List Bs
  | l, [] => l
  | l, b :: r => if 60 < (moveT l b.toNat).length then moveT l b.toNat else layT (moveT l b.toNat) r
structure LayI (c : CfgT) (I : List It) (L : List Bs) : Prop where
  t : Both (fun i s => Tells c i (wordsT s)) I L
  s : (I.filterMap stoI).length = 1
  p : I.filterMap prtI = c.ps
  u : (I.filterMap uniI).Perm c.us
  n : ∀ s ∈ L, ∀ x ∈ s, x ≠ 10
  l : ∀ s ∈ L, s.length ≤ 302
theorem Both.len {α γ : Type} {R : α → γ → Prop} : ∀ {a : List α} {b : List γ}, Both R a b → a.length = b.length
  | _, _, .nil => rfl
  | _, _, .cons _ h => by rw [List.length_cons, List.length_cons, h.len]
theorem Both.split {α γ : Type} {R : α → γ → Prop} : ∀ {x y : List γ} {a : List α}, Both R a (x ++ y) → ∃ a1 a2, a = a1 ++ a2 ∧ Both R a1 x ∧ Both R a2 y
  | [], y, a, h => ⟨[], a, rfl, .nil, h⟩
  | z :: x, y, _, .cons (a := u) h1 h => by
    obtain ⟨a1, a2, e, g1, g2⟩ := Both.split (x := x) h
    exact ⟨u :: a1, a2, by rw [e]; rfl, .cons h1 g1, g2⟩
theorem Both.app {α γ : Type} {R : α → γ → Prop} : ∀ {a1 : List α} {x : List γ} {a2 : List α} {y : List γ}, Both R a1 x → Both R a2 y → Both R (a1 ++ a2) (x ++ y)
  | _, _, _, _, .nil, h => h
  | _, _, _, _, .cons h1 h, g => .cons h1 (h.app g)
theorem at_parts {L : List Bs} {k : Nat} (h : k < L.length) : L = L.take k ++ L.getD k [] :: L.drop (k + 1) := by
  have : L.getD k [] = L[k] := by simp [List.getD_eq_getElem?_getD, List.getElem?_eq_getElem h]
  rw [this, ← List.drop_eq_getElem_cons h, List.take_append_drop]
theorem wide_len (s : Bs) : (wideT s).length ≤ 3 * s.length + 2 := by
  unfold wideT
  have : ∀ s : Bs, (s.flatMap (fun c => if c = 32 then [32, 32, 32] else [c])).length ≤ 3 * s.length := by
    intro s
    induction s with
    | nil => simp
    | cons c s ih =>
      rw [List.flatMap_cons, List.length_append, List.length_cons]
      have : (if c = 32 then [32, 32, 32] else [c] : Bs).length ≤ 3 := by split <;> simp
      omega
  have := this s
  simp only [List.cons_append, List.length_cons, List.length_append, List.length_nil]; omega
theorem wide_no10 {s : Bs} (h : ∀ x ∈ s, x ≠ 10) : ∀ x ∈ wideT s, x ≠ 10 := by
  intro x hx
  unfold wideT at hx
  rw [List.cons_append] at hx
  rcases List.mem_cons.1 hx with rfl | hx
  · decide
  · rcases List.mem_append.1 hx with q | q
    · obtain ⟨c, hc, hx⟩ := List.mem_flatMap.1 q
      split at hx
      · simp only [List.mem_cons, List.not_mem_nil, or_false] at hx
        rcases hx with rfl | rfl | rfl <;> decide
      · rw [List.mem_singleton] at hx; subst hx; exact h x hc
    · rw [List.mem_singleton] at q; subst q; decide
theorem lay_move {c : CfgT} {I : List It} {L : List Bs} (h : LayI c I L) (hne : 0 < L.length) (n : Nat) : ∃ I', LayI c I' (moveT L n) := by
  obtain ⟨k, hk⟩ : ∃ k, n / 4 % L.length = k := ⟨_, rfl⟩
  have hkl : k < L.length := by rw [← hk]; exact Nat.mod_lt _ hne
  unfold moveT
  rw [hk]
  have hL := at_parts hkl
  obtain ⟨A, hA⟩ : ∃ A, L.take k = A := ⟨_, rfl⟩
  obtain ⟨B, hB⟩ : ∃ B, L.drop (k + 1) = B := ⟨_, rfl⟩
  obtain ⟨s, hs⟩ : ∃ s, L.getD k [] = s := ⟨_, rfl⟩
  have hAl : A.length = k := by rw [← hA, List.length_take]; omega
  rw [hA, hB, hs] at hL
  have hsm : s ∈ L := by rw [hL]; simp
  have hset : ∀ y, L.set k y = A ++ y :: B := fun y => by
    rw [hL, ← hAl, List.set_append_right _ _ (Nat.le_refl _), Nat.sub_self]; rfl
  have ht := h.t
  rw [hL] at ht
  obtain ⟨I1, I2, eI, g1, g2⟩ := ht.split
  cases g2 with
  | cons hi g2 =>
  rename_i i I2
  split
  · rw [hs]
    split
    · rename_i hlen
      rw [hset]
      refine ⟨I, ⟨?_, h.s, h.p, h.u, fun x hx => ?_, fun x hx => ?_⟩⟩
      · rw [eI]
        exact g1.app (.cons (by rw [words_wide]; exact hi) g2)
      · rcases List.mem_append.1 hx with q | q
        · exact h.n x (by rw [hL]; exact List.mem_append_left _ q)
        · rcases List.mem_cons.1 q with rfl | q
          · exact wide_no10 (h.n s hsm)
          · exact h.n x (by rw [hL]; exact List.mem_append_right _ (List.mem_cons_of_mem _ q))
      · rcases List.mem_append.1 hx with q | q
        · exact h.l x (by rw [hL]; exact List.mem_append_left _ q)
        · rcases List.mem_cons.1 q with rfl | q
          · have := wide_len s; omega
          · exact h.l x (by rw [hL]; exact List.mem_append_right _ (List.mem_cons_of_mem _ q))
    · exact ⟨I, h⟩
  · split
    · have hd : L.drop k = s :: B := by rw [← hs, ← hB, List.drop_eq_getElem_cons hkl]; congr 1; simp [List.getD_eq_getElem?_getD, List.getElem?_eq_getElem hkl]
      rw [hA, hd]
      obtain ⟨r1, r2, r3⟩ := remark_void n
      have e1 : (I1 ++ It.void :: i :: I2).filterMap stoI = I.filterMap stoI := by rw [eI, List.filterMap_append, List.filterMap_append, List.filterMap_cons]; rfl
      have e2 : (I1 ++ It.void :: i :: I2).filterMap prtI = I.filterMap prtI := by rw [eI, List.filterMap_append, List.filterMap_append, List.filterMap_cons]; rfl
      have e3 : (I1 ++ It.void :: i :: I2).filterMap uniI = I.filterMap uniI := by rw [eI, List.filterMap_append, List.filterMap_append, List.filterMap_cons]; rfl
      refine ⟨I1 ++ .void :: i :: I2, ⟨g1.app (.cons r1 (.cons hi g2)), by rw [e1]; exact h.s, by rw [e2]; exact h.p, by rw [e3]; exact h.u, fun x hx => ?_, fun x hx => ?_⟩⟩
      · rcases List.mem_append.1 hx with q | q
        · exact h.n x (by rw [hL]; exact List.mem_append_left _ q)
        · rcases List.mem_cons.1 q with rfl | q
          · exact r3
          · exact h.n x (by rw [hL]; exact List.mem_append_right _ q)
      · rcases List.mem_append.1 hx with q | q
        · exact h.l x (by rw [hL]; exact List.mem_append_left _ q)
        · rcases List.mem_cons.1 q with rfl | q
          · omega
          · exact h.l x (by rw [hL]; exact List.mem_append_right _ q)
    · split
      · rename_i hsw
        obtain ⟨h1, h2⟩ := hsw
        cases B with
        | nil =>
          have := congrArg List.length hL
          simp only [List.length_append, List.length_cons, List.length_nil] at this
          omega
        | cons y B =>
        have hy : L.getD (k + 1) [] = y := by
          rw [hL, ← hAl, List.getD_eq_getElem?_getD, List.getElem?_append_right (by omega)]
          simp
        rw [hs, hy] at h2
        have hswap : swapT L k = A ++ y :: s :: B := by
          unfold swapT
          rw [hs, hy, hset, ← hAl, List.set_append_right _ _ (by omega)]
          simp
        rw [hswap]
        cases g2 with
        | cons hj g2 =>
        rename_i j I2
        have hmem : ∀ x, x ∈ A ++ y :: s :: B → x ∈ L := fun x hx => by
          rw [hL]
          rcases List.mem_append.1 hx with q | q
          · exact List.mem_append_left _ q
          · refine List.mem_append_right _ ?_
            rcases List.mem_cons.1 q with q | q
            · subst q; simp
            · rcases List.mem_cons.1 q with q | q
              · subst q; simp
              · exact List.mem_cons_of_mem _ (List.mem_cons_of_mem _ q)
        have hperm : (I1 ++ j :: i :: I2).Perm I := by rw [eI]; exact List.Perm.append_left _ (List.Perm.swap _ _ _)
        have hpp : (I1 ++ j :: i :: I2).filterMap prtI = I.filterMap prtI := by
          have key : (j :: i :: I2).filterMap prtI = (i :: j :: I2).filterMap prtI := by
            cases i with
            | part p =>
              cases j with
              | part q => exact absurd ⟨head_part hi, head_part hj⟩ h2
              | void => rfl
              | store => rfl
              | unit u => rfl
            | void => cases j <;> rfl
            | store => cases j <;> rfl
            | unit u => cases j <;> rfl
          rw [eI, List.filterMap_append, List.filterMap_append, key]
        refine ⟨I1 ++ j :: i :: I2, ⟨g1.app (.cons hj (.cons hi g2)), by rw [(hperm.filterMap stoI).length_eq]; exact h.s, by rw [hpp]; exact h.p, (hperm.filterMap uniI).trans h.u, fun x hx => h.n x (hmem x hx), fun x hx => h.l x (hmem x hx)⟩⟩
      · exact ⟨I, h⟩
theorem move_len (L : List Bs) (n : Nat) : L.length ≤ (moveT L n).length ∧ (moveT L n).length ≤ L.length + 1 := by
  unfold moveT swapT
  split
  · split
    · rw [List.length_set]; omega
    · omega
  · split
    · rw [List.length_append, List.length_cons, List.length_take, List.length_drop]; omega
    · split
      · rw [List.length_set, List.length_set]; omega
      · omega
theorem lay_all {c : CfgT} : ∀ (ch : List UInt8) {I : List It} {L : List Bs}, LayI c I L → 0 < L.length → L.length ≤ 60 → ∃ I', LayI c I' (layT L ch) ∧ (layT L ch).length ≤ 61
  | [], I, L, h, h0, h1 => ⟨I, h, by rw [layT]; omega⟩
  | b :: ch, I, L, h, h0, h1 => by
    obtain ⟨I', h'⟩ := lay_move h h0 b.toNat
    have hl := move_len L b.toNat
    rw [layT]
    split
    · exact ⟨I', h', by omega⟩
    · exact lay_all ch h' (by omega) (by omega)
theorem lay_start {c : CfgT} (hv : ValC c) : LayI c (itemsC c) ((linesC c).map joinW) ∧ 0 < ((linesC c).map joinW).length ∧ ((linesC c).map joinW).length ≤ 21 := by
  refine ⟨⟨tells_lines hv, by rw [items_store]; rfl, items_part c, by rw [items_unit], lines_no10 hv, fun s hs => ?_⟩, by rw [List.length_map]; unfold linesC; simp, by rw [List.length_map]; exact lines_len hv⟩
  obtain ⟨l, hl, rfl⟩ := List.mem_map.1 hs
  have := line_len hv l hl; omega
theorem parse_lay {c : CfgT} (h : chkE c = 0) (ch : List UInt8) : parseT (((layT ((linesC c).map joinW) ch).map (· ++ [10])).flatten) = (c, 0, 0) ∧ (((layT ((linesC c).map joinW) ch).map (· ++ [10])).flatten).length ≤ 18483 := by
  obtain ⟨h1, h2, h3⟩ := lay_start (val_of h)
  obtain ⟨I', h4, h5⟩ := lay_all ch h1 h2 (by omega)
  have h6 := fls_len _ 302 h4.l
  have h7 : (layT ((linesC c).map joinW) ch).length * 303 ≤ 61 * 303 := Nat.mul_le_mul_right _ h5
  exact ⟨parse_items h I' _ h4.t h4.s h4.p h4.u h4.n (by omega), by omega⟩
end Go.Proofs.YtedbbinlcdgkoaaGreatDoor

/- Layer 19: the law's Make. No program in sight. -/
namespace Go.Proofs.YtedbbinlcdgkoaaGreatDoor
open Go.Lib
set_option linter.unusedVariables false
set_option linter.unusedSimpArgs false
theorem val_to {c : CfgT} (h : ValC c) : chkE c = 0 := by
  have hu : unitsT c.us = true := by
    unfold unitsT
    rw [List.all_eq_true]
    intro k hk
    have hk := List.mem_range.1 hk
    unfold unit1T
    rw [getD_us c.us hk, getD_us c.us (show k - 1 < c.us.length by omega), h.u _ (List.getElem_mem hk)]
    have hs := List.pairwise_iff_getElem.1 h.s
    have hd := List.pairwise_iff_getElem.1 h.d
    have e1 : (decide (k = 0) || !decide (c.us[k].addr ≤ (c.us[k-1]'(by omega)).addr)) = true := by
      by_cases q : k = 0
      · rw [decide_eq_true q]; rfl
      · have := hs (k - 1) k (by omega) hk (by omega)
        rw [decide_eq_false (by omega : ¬ c.us[k].addr ≤ (c.us[k-1]'(by omega)).addr)]; simp
    have e2 : ((c.us.take k).any fun u => !decide (u.ser = []) && decide (u.ser = c.us[k].ser)) = false := by
      rw [List.any_eq_false]
      intro x hx
      obtain ⟨j, hj, rfl⟩ := List.getElem_of_mem hx
      rw [List.length_take] at hj
      rw [List.getElem_take]
      have := hd j k (by omega) hk (by omega)
      simp only [Bool.and_eq_true, Bool.not_eq_true', decide_eq_false_iff_not, decide_eq_true_eq]
      rintro ⟨a, b⟩
      exact this ⟨by rw [← b]; exact a, b⟩
    rw [e1, e2]; rfl
  have e3 : formT c = true := by
    have := h.p1; have := h.p4; have := h.n
    unfold formT
    rw [h.st, decide_eq_false (by omega : ¬ (c.ps.length : Int) < 1), decide_eq_false (by omega : ¬ (4 : Int) < c.ps.length), decide_eq_false (by omega : ¬ (16 : Int) < c.us.length)]; rfl
  have e4 : c.ps.all partT = true := List.all_eq_true.2 h.p
  have := h.sum
  unfold chkE cfgT
  rw [e3, e4, hu, decide_eq_false (by omega : ¬ c.store < sumT c.ps)]; rfl
def cls8 : Bs := [65, 66, 55, 67, 90, 48, 88, 89]
def classesT (n : Nat) : Bs := (cls8.take (n % 8 + 1 + n / 8 % (8 - n % 8))).drop (n % 8)
theorem classes_ok : ∀ n < 256, (plainT (classesT n) 8 && uniqT (classesT n)) = true := by decide +kernel
def all36 : Bs := [65, 66, 67, 68, 69, 70, 71, 72, 73, 74, 75, 76, 77, 78, 79, 80, 81, 82, 83, 84, 85, 86, 87, 88, 89, 90, 48, 49, 50, 51, 52, 53, 54, 55, 56, 57]
def ch36 (n : Nat) : UInt8 := all36.getD (n % 36) 0
def serialT (s : Bs) (i : Nat) : Bs := ch36 i :: (s.take 5).map fun c => ch36 c.toNat
theorem ch36_cap (n : Nat) : capC (ch36 n) = true := by
  have : ∀ k < 36, capC (all36.getD k 0) = true := by decide
  exact this (n % 36) (Nat.mod_lt _ (by decide))
theorem ch36_inj : ∀ i < 16, ∀ j < 16, ch36 i = ch36 j → i = j := by decide
theorem serial_ok (s : Bs) (i : Nat) : plainT (serialT s i) 6 = true := by
  unfold plainT serialT
  rw [decide_eq_false (by simp : ¬ (_ :: _ : Bs) = []), List.all_eq_true.2]
  · rw [decide_eq_true]; rfl
    simp only [List.length_cons, List.length_map, List.length_take]; omega
  · intro x hx
    rcases List.mem_cons.1 hx with rfl | hx
    · exact ch36_cap _
    · obtain ⟨c, _, rfl⟩ := List.mem_map.1 hx
      exact ch36_cap _
def modU (a : Int) (m : Nat) : Nat := (a % 18446744073709551616).toNat % m
def partsM : List UInt8 → Nat → List ParT
  | [], _ => []
  | b :: r, left => if left = 0 then [] else ⟨(2048 * (1 + b.toNat % (left / 2048)) : Nat), classesT b.toNat⟩ :: partsM r (left - 2048 * (1 + b.toNat % (left / 2048)))
def mkU (u : UniT) (i : Nat) (addr : Int) : UniT :=
  let k := 1 + modU u.kind 5
  ⟨addr + 1 + (modU u.addr 40 : Nat), (k : Nat), if k = 4 ∨ k = 5 then serialT u.ser i else [], if k = 5 then ((1 + modU u.cyl 64 : Nat) : Int) else 0, if k = 5 then ((1 + modU u.head 8 : Nat) : Int) else 0⟩
def unitsM : List UniT → Nat → Int → List UniT
  | [], _, _ => []
  | u :: r, i, addr => mkU u i addr :: unitsM r (i + 1) (addr + 1 + (modU u.addr 40 : Nat))
def storeM (n : Nat) : Nat := 10240 + 2048 * (n % 28)
def makeT (st : Nat) (ps : List UInt8) (us : List UniT) : CfgT :=
  ⟨unitsM (us.take 16) 0 (-1), (storeM st : Nat), if ps = [] then [⟨2048, [65]⟩] else partsM (ps.take 4) (storeM st - 8192)⟩
theorem modU_lt (a : Int) {m : Nat} (h : 0 < m) : modU a m < m := Nat.mod_lt _ h
theorem mk_parts (u : UniT) (i : Nat) (addr : Int) (ha : -1 ≤ addr ∧ addr ≤ 900) : unitT (mkU u i addr) = true ∧ addr < (mkU u i addr).addr ∧ (mkU u i addr).addr ≤ addr + 40 := by
  have h1 := modU_lt u.addr (show 0 < 40 by decide)
  have h2 := modU_lt u.kind (show 0 < 5 by decide)
  have h3 := modU_lt u.cyl (show 0 < 64 by decide)
  have h4 := modU_lt u.head (show 0 < 8 by decide)
  unfold mkU
  obtain ⟨a, ea⟩ : ∃ a, modU u.addr 40 = a := ⟨_, rfl⟩
  obtain ⟨k, ek⟩ : ∃ k, modU u.kind 5 = k := ⟨_, rfl⟩
  obtain ⟨y, ey⟩ : ∃ y, modU u.cyl 64 = y := ⟨_, rfl⟩
  obtain ⟨z, ez⟩ : ∃ z, modU u.head 8 = z := ⟨_, rfl⟩
  rw [ea] at h1; rw [ek] at h2; rw [ey] at h3; rw [ez] at h4
  rw [ea, ek, ey, ez]
  refine ⟨?_, by simp only; omega, by simp only; omega⟩
  have e1 : (decide (addr + 1 + (a : Int) < 0) || decide (1023 < addr + 1 + (a : Int))) = false := by
    rw [decide_eq_false (by omega), decide_eq_false (by omega)]; rfl
  have hk : k = 0 ∨ k = 1 ∨ k = 2 ∨ k = 3 ∨ k = 4 := by omega
  unfold unitT
  simp only [e1]
  rcases hk with rfl | rfl | rfl | rfl | rfl
  · rfl
  · rfl
  · rfl
  · have := serial_ok u.ser i
    simp [flatT, this]
  · have := serial_ok u.ser i
    simp [flatT, this]; omega
theorem units_make : ∀ (us : List UniT) (i : Nat) (addr : Int), -1 ≤ addr → addr + 40 * us.length ≤ 900 → i + us.length ≤ 16 → (∀ x ∈ unitsM us i addr, unitT x = true ∧ addr < x.addr ∧ (x.ser ≠ [] → ∃ j, i ≤ j ∧ j < 16 ∧ x.ser.head? = some (ch36 j))) ∧ sorT (unitsM us i addr) ∧
    ((unitsM us i addr).Pairwise fun x y => ¬ (y.ser ≠ [] ∧ x.ser = y.ser)) ∧ (unitsM us i addr).length = us.length
  | [], i, addr, _, _, _ => ⟨by simp [unitsM], List.Pairwise.nil, List.Pairwise.nil, rfl⟩
  | u :: us, i, addr, h0, h1, h2 => by
    simp only [List.length_cons] at h1 h2
    obtain ⟨g1, g2, g3⟩ := mk_parts u i addr ⟨h0, by omega⟩
    have hm := modU_lt u.addr (show 0 < 40 by decide)
    obtain ⟨k1, k2, k3, k4⟩ := units_make us (i + 1) (addr + 1 + (modU u.addr 40 : Nat)) (by omega) (by omega) (by omega)
    have hser : (mkU u i addr).ser ≠ [] → (mkU u i addr).ser.head? = some (ch36 i) := by
      intro hq
      unfold mkU at hq ⊢
      simp only at hq ⊢
      split at hq
      · rename_i q; rw [if_pos q]; rfl
      · exact absurd rfl hq
    rw [unitsM]
    refine ⟨fun x hx => ?_, ?_, ?_, by rw [List.length_cons, k4, List.length_cons]⟩
    · rcases List.mem_cons.1 hx with rfl | hx
      · exact ⟨g1, g2, fun hq => ⟨i, Nat.le_refl _, by omega, hser hq⟩⟩
      · obtain ⟨a, b, c⟩ := k1 x hx
        exact ⟨a, by omega, fun hq => by obtain ⟨j, j1, j2, j3⟩ := c hq; exact ⟨j, by omega, j2, j3⟩⟩
    · unfold sorT at k2 ⊢
      rw [List.pairwise_cons]
      exact ⟨fun x hx => by have := (k1 x hx).2.1; exact this, k2⟩
    · rw [List.pairwise_cons]
      refine ⟨fun x hx => ?_, k3⟩
      rintro ⟨q1, q2⟩
      obtain ⟨j, j1, j2, j3⟩ := (k1 x hx).2.2 q1
      have := hser (by rw [q2]; exact q1)
      rw [q2, j3] at this
      injection this with this
      have := ch36_inj j j2 i (by omega) this
      omega
theorem parts_make : ∀ (ps : List UInt8) (m : Nat), m ≤ 30 → (∀ x ∈ partsM ps (2048 * m), partT x = true) ∧ (∀ z : Int, (partsM ps (2048 * m)).foldl (fun z p => z + p.size) z ≤ z + 2048 * m) ∧ (partsM ps (2048 * m)).length ≤ ps.length
  | [], m, _ => ⟨by simp [partsM], fun z => by simp [partsM]; omega, by simp [partsM]⟩
  | b :: ps, m, hm => by
    rw [partsM]
    rcases Nat.eq_zero_or_pos m with rfl | hp
    · rw [if_pos (by omega)]
      exact ⟨by simp, fun z => by simp, by simp⟩
    · rw [if_neg (by omega), Nat.mul_div_cancel_left m (by decide)]
      obtain ⟨r, hr⟩ : ∃ r, b.toNat % m = r := ⟨_, rfl⟩
      have hrm : r < m := by rw [← hr]; exact Nat.mod_lt _ hp
      rw [hr, ← Nat.mul_sub]
      obtain ⟨h1, h2, h3⟩ := parts_make ps (m - (1 + r)) (by omega)
      refine ⟨fun x hx => ?_, fun z => ?_, by rw [List.length_cons, List.length_cons]; omega⟩
      · rcases List.mem_cons.1 hx with rfl | hx
        · have hc := classes_ok b.toNat b.toNat_lt
          rw [Bool.and_eq_true] at hc
          unfold partT sizT
          simp only
          rw [hc.1, hc.2, decide_eq_true (by omega : (2048 : Int) ≤ ((2048 * (1 + r) : Nat) : Int)), decide_eq_true (by omega : ((2048 * (1 + r) : Nat) : Int) ≤ 65536), decide_eq_true (by omega : ((2048 * (1 + r) : Nat) : Int) % 2048 = 0)]
          rfl
        · exact h1 x hx
      · rw [List.foldl_cons]
        have := h2 (z + ((2048 * (1 + r) : Nat) : Int))
        simp only at this ⊢
        omega
theorem make_valid (st : Nat) (ps : List UInt8) (us : List UniT) : chkE (makeT st ps us) = 0 := by
  have hs : storeM st ≤ 65536 ∧ 10240 ≤ storeM st ∧ storeM st % 2048 = 0 := by unfold storeM; have := Nat.mod_lt st (show 0 < 28 by decide); omega
  have hlen : (us.take 16).length ≤ 16 := by rw [List.length_take]; omega
  obtain ⟨u1, u2, u3, u4⟩ := units_make (us.take 16) 0 (-1) (by omega) (by omega) (by omega)
  obtain ⟨p1, p2, p3⟩ := parts_make (ps.take 4) ((storeM st - 8192) / 2048) (by omega)
  have e0 : 2048 * ((storeM st - 8192) / 2048) = storeM st - 8192 := by omega
  rw [e0] at p1 p2 p3
  have hst : sizT ((storeM st : Nat) : Int) = true := by
    unfold sizT
    rw [decide_eq_true (by omega), decide_eq_true (by omega), decide_eq_true (by omega)]; rfl
  refine val_to ⟨hst, ?_, ?_, by show (unitsM _ _ _).length ≤ 16; omega, ?_, fun x hx => (u1 x hx).1, u2, u3, ?_⟩
  all_goals
    unfold makeT
    simp only
    by_cases hp : ps = []
    · first | (rw [if_pos hp]; decide) | (rw [if_pos hp]; intro x hx; rw [List.mem_singleton] at hx; subst hx; decide) | (rw [if_pos hp]; unfold sumT; simp only [List.foldl_cons, List.foldl_nil]; omega)
    · rw [if_neg hp]
      first
        | exact p1
        | (have := p2 8192; unfold sumT; omega)
        | (rw [List.length_take] at p3; omega)
        | (cases ps with
           | nil => exact absurd rfl hp
           | cons b r => rw [List.take_succ_cons, partsM, if_neg (by omega)]; simp)
end Go.Proofs.YtedbbinlcdgkoaaGreatDoor

import Derived.Orders
import Derived.Outline
import Derived.Test.YtedbbinlcdgkoaaGreatDoorFr
import Derived.Test.YtedbbinlcdgkoaaGreatDoorYL

/- A region that draws its order, walked operation by operation, where what holds all along may depend on which operations are through. No program in sight. -/
namespace Go.Proofs.YtedbbinlcdgkoaaGreatDoor
open Go.RowKit

def dstN (ops : Array Oper) (i : Nat) : Nat := match (ops[i]?).bind (·.dst) with | some d => d | none => 1000000 + i
def valOf (o : Oper) (v : Value) : Value := match o.dst with | some _ => v | none => undef
def unl : Nat → Array Bool → Nat
  | 0, _ => 0
  | n + 1, l => unl n l + if l.getD n true then 0 else 1
theorem unl_set_ge : ∀ (n : Nat) (l : Array Bool) (i : Nat), n ≤ i → unl n (l.setIfInBounds i true) = unl n l
  | 0, _, _, _ => rfl
  | n + 1, l, i, h => by
    have e : (l.setIfInBounds i true).getD n true = l.getD n true := by
      simp only [Array.getD_eq_getD_getElem?, Array.getElem?_setIfInBounds]
      rw [if_neg (by omega)]
    rw [unl, unl, unl_set_ge n l i (by omega), e]
theorem unl_set : ∀ (n : Nat) (l : Array Bool) (i : Nat), i < n → l.getD i true = false → unl n (l.setIfInBounds i true) + 1 = unl n l
  | 0, _, _, h, _ => by omega
  | n + 1, l, i, h, hf => by
    have hi : i < l.size := by
      rcases Nat.lt_or_ge i l.size with h' | h'
      · exact h'
      · simp [Array.getD_eq_getD_getElem?, Array.getElem?_eq_none h'] at hf
    by_cases e : i = n
    · subst e
      rw [unl, unl, unl_set_ge i l i (Nat.le_refl _), hf]
      have : (l.setIfInBounds i true).getD i true = true := by
        simp only [Array.getD_eq_getD_getElem?, Array.getElem?_setIfInBounds]
        simp [hi]
      rw [this]; simp
    · have e2 : (l.setIfInBounds i true).getD n true = l.getD n true := by
        simp only [Array.getD_eq_getD_getElem?, Array.getElem?_setIfInBounds]
        rw [if_neg e]
      rw [unl, unl, e2, ← unl_set n l i (by omega) hf]
      omega
theorem unl_zero : ∀ (n : Nat) (l : Array Bool), unl n l = 0 → ∀ i, i < n → l.getD i true = true
  | 0, _, _, _, h => by omega
  | n + 1, l, h, i, hi => by
    rw [unl] at h
    by_cases e : i = n
    · subst e
      cases hh : l.getD i true with
      | true => rfl
      | false => rw [hh] at h; simp at h
    · exact unl_zero n l (by omega) i (by omega)
theorem unl_full (n : Nat) : unl n (Array.replicate n false) = n := by
  have h : ∀ m, m ≤ n → unl m (Array.replicate n false) = m := by
    intro m
    induction m with
    | zero => intro _; rfl
    | succ m ih =>
      intro hm
      have : (Array.replicate n false).getD m true = false := by
        simp only [Array.getD_eq_getD_getElem?, Array.getElem?_replicate]
        rw [if_pos (by omega)]; rfl
      rw [unl, ih (by omega), this]; simp
  exact h n (Nat.le_refl _)

structure KeepsN (ops : Array Oper) (a0 a : Act) : Prop where
  defers : a.defers = a0.defers
  size : a.tmps.size = a0.tmps.size
  other : ∀ k, (∀ i, i < ops.size → dstN ops i ≠ k) → a.tmps.getD k undef = a0.tmps.getD k undef

structure KeepsL (ops : Array Oper) (listed : Array Bool) (a0 a : Act) : Prop where
  defers : a.defers = a0.defers
  size : a.tmps.size = a0.tmps.size
  other : ∀ k, (∀ i, i < ops.size → listed.getD i true = true → dstN ops i ≠ k) → a.tmps.getD k undef = a0.tmps.getD k undef
section
variable {P : Program} {ops : Array Oper} {Q : Exit → Act → World → Prop} {md : Region.Mode}

theorem ready_spec {listed : Array Bool} {i : Nat} (h : i ∈ Region.ready md ops listed) : listed.getD i true = false ∧ i < ops.size ∧ ∃ o, ops[i]? = some o ∧ ∀ e ∈ o.after, Region.binds md e = true → listed.getD e.on false = true := by
  simp only [Region.ready, List.mem_filter, List.mem_range, Bool.and_eq_true, Bool.not_eq_true'] at h
  obtain ⟨h1, h2, h3⟩ := h
  refine ⟨h2, h1, ops[i], Array.getElem?_eq_getElem h1, ?_⟩
  rw [Array.getElem?_eq_getElem h1] at h3
  simp only [Option.map_some, Option.getD_some, Array.all_eq_true_iff_forall_mem, Bool.or_eq_true, Bool.not_eq_true'] at h3
  intro e he hb
  rcases h3 e he with h4 | h4
  · rw [hb] at h4; cases h4
  · exact h4

theorem ready_least (hlt : ∀ (i : Nat) (o : Oper), ops[i]? = some o → ∀ e ∈ o.after, Region.binds md e = true → e.on < i) {listed : Array Bool} (hr : Region.ready md ops listed = []) : ∀ i, i < ops.size → listed.getD i true = true := by
  intro i
  induction i using Nat.strongRecOn with
  | ind i ih =>
    intro hi
    cases hl : listed.getD i true with
    | true => rfl
    | false =>
      exfalso
      have hm : i ∈ Region.ready md ops listed := by
        simp only [Region.ready, List.mem_filter, List.mem_range, Bool.and_eq_true, Bool.not_eq_true']
        refine ⟨hi, hl, ?_⟩
        rw [Array.getElem?_eq_getElem hi]
        simp only [Option.map_some, Option.getD_some, Array.all_eq_true_iff_forall_mem, Bool.or_eq_true, Bool.not_eq_true']
        intro e he
        cases hb : Region.binds md e with
        | false => exact .inl rfl
        | true =>
        have h1 := hlt i _ (Array.getElem?_eq_getElem hi) e he hb
        have h2 := ih e.on h1 (by omega)
        have hi2 : i < listed.size := by
          rcases Nat.lt_or_ge i listed.size with h' | h'
          · exact h'
          · simp [Array.getD_eq_getD_getElem?, Array.getElem?_eq_none h'] at hl
        right
        simp only [Array.getD_eq_getD_getElem?] at h2 ⊢
        rw [Array.getElem?_eq_getElem (by omega)] at h2 ⊢
        simpa using h2
      rw [hr] at hm
      cases hm

def upd (f : Nat → Value) (i : Nat) (x : Value) : Nat → Value := fun j => if j = i then x else f j
theorem upd_same (f : Nat → Value) (i : Nat) (x : Value) : upd f i x i = x := if_pos rfl
theorem upd_other (f : Nat → Value) {i j : Nat} (x : Value) (h : j ≠ i) : upd f i x j = f j := if_neg h
def outs (ops : Array Oper) (a : Act) : Nat → Value := fun j => if j < ops.size then a.tmps.getD (dstN ops j) undef else undef
theorem outs_lt {ops : Array Oper} {j : Nat} (h : j < ops.size) (a : Act) : outs ops a j = a.tmps.getD (dstN ops j) undef := if_pos h
theorem wpAny_flowG (F : Nat → (Nat → Value) → World → Prop) (G : Array Bool → World → Prop) (R : Nat → World → World → Prop) (a0 : Act) (hbig : a0.tmps.size ≤ 1000000)
    (hF : ∀ i j (oj : Oper) f x w w', i < ops.size → ops[j]? = some oj → j ≠ i → (∀ e ∈ oj.after, Region.binds md e = true → e.on ≠ i) → F j f w → R i w w' → F j (upd f i x) w')
    (hR0 : ∀ i (o : Oper) w, ops[i]? = some o → o.guard ≠ none → R i w w) (hGR : ∀ (i : Nat) (o : Oper), ops[i]? = some o → ∀ (listed : Array Bool) w w', listed.size = ops.size → listed.getD i true = false → (∀ (j : Nat) (oj : Oper), ops[j]? = some oj → listed.getD j true = true → ∀ e ∈ oj.after, Region.binds md e = true → listed.getD e.on false = true) → (∀ e ∈ o.after, Region.binds md e = true → listed.getD e.on false = true) → G listed w → R i w w' → G (listed.setIfInBounds i true) w')
    (hlt : ∀ (i : Nat) (o : Oper), ops[i]? = some o → ∀ e ∈ o.after, Region.binds md e = true → e.on < i)
    (hdst : ∀ (i : Nat) (o : Oper), ops[i]? = some o → o.dst = some (dstN ops i) → dstN ops i < a0.tmps.size)
    (hinj : ∀ i j, i < ops.size → j < ops.size → dstN ops i = dstN ops j → i = j)
    (hstep : ∀ (i : Nat) (o : Oper), ops[i]? = some o → ∀ (listed : Array Bool) (a : Act) (w : World), listed.size = ops.size → listed.getD i true = false → (∀ (j : Nat) (oj : Oper), ops[j]? = some oj → listed.getD j true = true → ∀ e ∈ oj.after, Region.binds md e = true → listed.getD e.on false = true) → (∀ e ∈ o.after, Region.binds md e = true → listed.getD e.on false = true) → G listed w → KeepsL ops listed a0 a → (∀ e ∈ o.after, Region.binds md e = true → F e.on (outs ops a) w) →
      if Region.wanted o (yielded ops a.tmps) = true then o.wp P a w (fun a' w' => ∃ v, a' = a.put o.dst v ∧ F i (upd (outs ops a) i (valOf o v)) w' ∧ R i w w') Q else F i (upd (outs ops a) i undef) w)
    (hend : ∀ listed a w, (∀ i, i < ops.size → listed.getD i true = true) → G listed w → KeepsL ops listed a0 a → (∀ i, i < ops.size → F i (outs ops a) w) → Q .normal a w) :
    ∀ (fuel : Nat) (listed : Array Bool) (a : Act) (w : World), unl ops.size listed = fuel → listed.size = ops.size → KeepsL ops listed a0 a → G listed w →
      (∀ i, i < ops.size → listed.getD i true = true → F i (outs ops a) w) →
      (∀ (j : Nat) (oj : Oper), ops[j]? = some oj → listed.getD j true = true → ∀ e ∈ oj.after, Region.binds md e = true → listed.getD e.on false = true) → wpAny P md ops Q fuel listed a w := by
  intro fuel
  induction fuel with
  | zero =>
    intro listed a w hu hsz hk hG hf _
    have hall := unl_zero _ _ hu
    refine ⟨?_, hend listed a w hall hG hk (fun i hi => hf i hi (hall i hi))⟩
    cases hr : Region.ready md ops listed with
    | nil => rfl
    | cons x xs =>
      have hx : x ∈ Region.ready md ops listed := by rw [hr]; exact List.mem_cons_self
      obtain ⟨h1, h2, _⟩ := ready_spec hx
      rw [hall x h2] at h1
      cases h1
  | succ fuel ih =>
    intro listed a w hu hsz hk hG hf hdp
    refine ⟨fun hr => ?_, fun i hi => ?_⟩
    · have hall := ready_least hlt hr
      exact hend listed a w hall hG hk (fun i hi => hf i hi (hall i hi))
    · obtain ⟨h1, h2, o, ho, hdeps⟩ := ready_spec hi
      have hone : dstN ops i = (match o.dst with | some d => d | none => 1000000 + i) := by unfold dstN; rw [ho]; rfl
      have hset : ∀ j, (listed.setIfInBounds i true).getD j true = if j = i then true else listed.getD j true := by
        intro j
        simp only [Array.getD_eq_getD_getElem?, Array.getElem?_setIfInBounds]
        by_cases e : j = i
        · subst e; rw [if_pos rfl, if_pos rfl, if_pos (by omega)]; rfl
        · rw [if_neg (fun q => e q.symm), if_neg e]
      have hset' : ∀ j, (listed.setIfInBounds i true).getD j false = if j = i then true else listed.getD j false := by
        intro j
        simp only [Array.getD_eq_getD_getElem?, Array.getElem?_setIfInBounds]
        by_cases e : j = i
        · subst e; rw [if_pos rfl, if_pos rfl, if_pos (by omega)]; rfl
        · rw [if_neg (fun q => e q.symm), if_neg e]
      have hnext : ∀ a' w', (∃ v, a' = a.put o.dst v ∧ F i (upd (outs ops a) i (valOf o v)) w' ∧ R i w w') → wpAny P md ops Q fuel (listed.setIfInBounds i true) a' w' := by
        rintro a' w' ⟨v, rfl, hv, hR⟩
        have hput : ∀ k, (a.put o.dst v).tmps.getD k undef = if k = dstN ops i then valOf o v else a.tmps.getD k undef := by
          intro k
          cases hd : o.dst with
          | some d =>
            rw [hd] at hone
            have hone : dstN ops i = d := hone
            have hd2 := hdst i o ho (by rw [hd, hone])
            simp only [Act.put, valOf, hd, Array.getD_eq_getD_getElem?, Array.getElem?_setIfInBounds]
            by_cases hk2 : k = dstN ops i
            · subst hk2
              rw [if_pos hone.symm, if_pos rfl, if_pos (by rw [hk.size]; omega)]
              simp
            · rw [if_neg (fun e => hk2 (by rw [hone, ← e])), if_neg hk2]
          | none =>
            rw [hd] at hone
            simp only [Act.put, valOf, hd]
            by_cases hk2 : k = dstN ops i
            · subst hk2
              rw [if_pos rfl, Array.getD_eq_getD_getElem?, Array.getElem?_eq_none (by rw [hk.size, hone]; show a0.tmps.size ≤ 1000000 + i; omega)]
              rfl
            · rw [if_neg hk2]
        have houts : outs ops (a.put o.dst v) = upd (outs ops a) i (valOf o v) := funext fun j => by
          by_cases hj : j < ops.size
          · rw [outs_lt hj, hput]
            by_cases hji : j = i
            · subst hji; rw [if_pos rfl, upd_same]
            · rw [if_neg (fun e => hji (hinj j i hj h2 e)), upd_other _ _ hji, outs_lt hj]
          · have hji : j ≠ i := fun e => hj (by rw [e]; exact h2)
            rw [upd_other _ _ hji]
            show (if _ then _ else _) = (if _ then _ else _)
            rw [if_neg hj, if_neg hj]
        have hsize : (a.put o.dst v).tmps.size = a0.tmps.size := by
          cases hd : o.dst with
          | some d => simp only [Act.put, Array.size_setIfInBounds]; exact hk.size
          | none => exact hk.size
        have hdef : (a.put o.dst v).defers = a0.defers := by
          cases hd : o.dst with
          | some d => exact hk.defers
          | none => exact hk.defers
        refine ih _ _ _ ?_ (by simpa using hsz) ⟨hdef, hsize, ?_⟩ (hGR i o ho listed w w' hsz h1 hdp hdeps hG hR) ?_ ?_
        · have := unl_set ops.size listed i h2 h1; omega
        · intro k hk2
          have hii : (listed.setIfInBounds i true).getD i true = true := by rw [hset, if_pos rfl]
          rw [hput, if_neg (fun e => hk2 i h2 hii e.symm)]
          exact hk.other k (fun j hj hl => hk2 j hj (by rw [hset]; split; rfl; exact hl))
        · intro j hj hl
          rw [houts]
          by_cases hji : j = i
          · subst hji; exact hv
          · rw [hset, if_neg hji] at hl
            refine hF i j ops[j] _ _ _ _ h2 (Array.getElem?_eq_getElem hj) hji ?_ (hf j hj hl) hR
            intro e he hb hei
            have := hdp j ops[j] (Array.getElem?_eq_getElem hj) hl e he hb
            rw [hei] at this
            have hi2 : i < listed.size := by omega
            simp only [Array.getD_eq_getD_getElem?, Array.getElem?_eq_getElem hi2, Option.getD_some] at h1 this
            rw [h1] at this; cases this
        · intro j oj hoj hl e he hb
          rw [hset']
          by_cases hei : e.on = i
          · rw [if_pos hei]
          · rw [if_neg hei]
            rw [hset] at hl
            by_cases hji : j = i
            · subst hji
              obtain rfl : o = oj := Option.some.inj (ho.symm.trans hoj)
              exact hdeps e he hb
            · rw [if_neg hji] at hl
              exact hdp j oj hoj hl e he hb
      have hs := hstep i o ho listed a w hsz h1 hdp hdeps hG hk (by
        intro e he hb
        have h3 := hdeps e he hb
        have h4 := hlt i o ho e he hb
        refine hf e.on (by omega) ?_
        simp only [Array.getD_eq_getD_getElem?] at h3 ⊢
        rw [Array.getElem?_eq_getElem (by omega)] at h3 ⊢
        simpa using h3)
      unfold wpOp
      rw [ho]
      simp only
      split
      · rename_i hw
        rw [if_pos hw] at hs
        exact .inl (Oper.wp_mono hnext hs)
      · rename_i hw
        rw [if_neg hw] at hs
        refine hnext _ _ ⟨undef, rfl, ?_, hR0 i o w ho (fun e => hw (by simp [Region.wanted, e]))⟩
        have : valOf o undef = undef := by unfold valOf; cases o.dst <;> rfl
        rw [this]; exact hs

def flowNB (ops : Array Oper) (n : Nat) : Bool :=
  decide (n ≤ 1000000) && (List.range ops.size).all fun i => (ops[i]?).all (fun o => o.after.all (fun e => !(Region.binds .any e) || decide (e.on < i)) && (o.dst == none || decide (dstN ops i < n))) &&
    (List.range ops.size).all fun j => decide (i = j) || decide (dstN ops i ≠ dstN ops j)
def freeF (md : Region.Mode) (ops : Array Oper) (j i : Nat) : Bool := (ops[j]?).all fun o => o.after.all fun e => !(Region.binds md e) || decide (e.on ≠ i)

theorem flowNB_spec {n : Nat} (h : flowNB ops n = true) : n ≤ 1000000 ∧ (∀ (i : Nat) (o : Oper), ops[i]? = some o → ∀ e ∈ o.after, Region.binds .any e = true → e.on < i) ∧
    (∀ (i : Nat) (o : Oper), ops[i]? = some o → o.dst = some (dstN ops i) → dstN ops i < n) ∧ (∀ i j, i < ops.size → j < ops.size → dstN ops i = dstN ops j → i = j) := by
  have hs : ∀ (i : Nat) (o : Oper), ops[i]? = some o → i < ops.size := fun i o ho => by
    rcases Nat.lt_or_ge i ops.size with h | h
    · exact h
    · rw [Array.getElem?_eq_none h] at ho; cases ho
  simp only [flowNB, List.all_eq_true, List.mem_range, Bool.and_eq_true, Bool.or_eq_true, decide_eq_true_eq] at h
  obtain ⟨hn, h⟩ := h
  refine ⟨hn, fun i o ho e he hb => ?_, fun i o ho hd => ?_, fun i j hi hj he => ?_⟩
  · have h1 := (h i (hs i o ho)).1
    rw [ho] at h1
    simp only [Option.all_some, Bool.and_eq_true, Array.all_eq_true_iff_forall_mem, decide_eq_true_eq, Bool.or_eq_true, beq_iff_eq, Bool.not_eq_true'] at h1
    rcases h1.1 e he with h2 | h2
    · rw [hb] at h2; cases h2
    · exact h2
  · have h1 := (h i (hs i o ho)).1
    rw [ho] at h1
    simp only [Option.all_some, Bool.and_eq_true, Array.all_eq_true_iff_forall_mem, decide_eq_true_eq, Bool.or_eq_true, beq_iff_eq] at h1
    rcases h1.2 with h2 | h2
    · rw [h2] at hd; cases hd
    · exact h2
  · rcases (h i hi).2 j hj with h2 | h2
    · exact h2
    · exact absurd he h2

theorem wp_region_flowG {id : Nat} {a0 : Act} {w0 : World} (hm : P.follows .mixedOrders = true) (F : Nat → (Nat → Value) → World → Prop) (G : Array Bool → World → Prop) (R : Nat → World → World → Prop)
    {n : Nat} (hn : a0.tmps.size = n) (hB : flowNB ops n = true) (hR0 : ∀ i (o : Oper) w, ops[i]? = some o → o.guard ≠ none → R i w w) (hGR : ∀ (i : Nat) (o : Oper), ops[i]? = some o → ∀ (listed : Array Bool) w w', listed.size = ops.size → listed.getD i true = false → (∀ (j : Nat) (oj : Oper), ops[j]? = some oj → listed.getD j true = true → ∀ e ∈ oj.after, Region.binds .any e = true → listed.getD e.on false = true) → (∀ e ∈ o.after, Region.binds .any e = true → listed.getD e.on false = true) → G listed w → R i w w' → G (listed.setIfInBounds i true) w') (h0 : G (Array.replicate ops.size false) { w0 with drawn := w0.drawn + 1 })
    (hF : ∀ j, j < ops.size → ∀ i f x w w', i < ops.size → j ≠ i → freeF .any ops j i = true → F j f w → R i w w' → F j (upd f i x) w')
    (hstep : ∀ i, i < ops.size → ∀ (o : Oper), ops[i]? = some o → ∀ (listed : Array Bool) (a : Act) (w : World), listed.size = ops.size → listed.getD i true = false → (∀ (j : Nat) (oj : Oper), ops[j]? = some oj → listed.getD j true = true → ∀ e ∈ oj.after, Region.binds .any e = true → listed.getD e.on false = true) → (∀ e ∈ o.after, Region.binds .any e = true → listed.getD e.on false = true) → G listed w → KeepsL ops listed a0 a → (∀ e ∈ o.after, Region.binds .any e = true → F e.on (outs ops a) w) →
      if Region.wanted o (yielded ops a.tmps) = true then o.wp P a w (fun a' w' => ∃ v, a' = a.put o.dst v ∧ F i (upd (outs ops a) i (valOf o v)) w' ∧ R i w w') Q else F i (upd (outs ops a) i undef) w)
    (hend : ∀ listed a w, (∀ i, i < ops.size → listed.getD i true = true) → G listed w → KeepsL ops listed a0 a → (∀ i, i < ops.size → F i (outs ops a) w) → Q .normal a w) : (Code.region id ops true).wp P Q a0 w0 := by
  obtain ⟨h1, h2, h3, h4⟩ := flowNB_spec hB
  have hs : ∀ (i : Nat) (o : Oper), ops[i]? = some o → i < ops.size := fun i o ho => by
    rcases Nat.lt_or_ge i ops.size with h | h
    · exact h
    · rw [Array.getElem?_eq_none h] at ho; cases ho
  refine wp_region_any hm (wpAny_flowG F G R a0 (by rw [hn]; exact h1) ?_ hR0 hGR h2 (by rw [hn]; exact h3) h4 ?_ hend _ _ _ _ (unl_full _) (by simp) ⟨rfl, rfl, fun _ _ => rfl⟩ h0 ?_ ?_)
  · intro i j oj f x w w' hi hoj hji hfree hf hr
    refine hF j (hs j oj hoj) i f x w w' hi hji ?_ hf hr
    unfold freeF
    rw [hoj]
    simp only [Option.all_some, Array.all_eq_true_iff_forall_mem, Bool.or_eq_true, Bool.not_eq_true', decide_eq_true_eq]
    intro e he
    cases hb : Region.binds .any e with
    | false => exact .inl rfl
    | true => exact .inr (hfree e he hb)
  · exact fun i o ho listed a w q1 q2 q3 q4 hg hk hd => hstep i (hs i o ho) o ho listed a w q1 q2 q3 q4 hg hk hd
  · intro i hi hl
    simp only [Array.getD_eq_getD_getElem?, Array.getElem?_replicate, hi, if_true, Option.getD_some] at hl
    cases hl
  · intro j oj hoj hl
    simp only [Array.getD_eq_getD_getElem?, Array.getElem?_replicate, hs j oj hoj, if_true, Option.getD_some] at hl
    cases hl
theorem forall_lt_zero' {p : Nat → Prop} : ∀ i, i < 0 → p i := fun i h => by omega
theorem forall_lt_succ' {p : Nat → Prop} {n : Nat} (h : ∀ i, i < n → p i) (hn : p n) : ∀ i, i < n + 1 → p i := fun i hi => by
  rcases Nat.lt_or_ge i n with h1 | h1
  · exact h i h1
  · obtain rfl : i = n := by omega
    exact hn
theorem KeepsL.get {listed : Array Bool} {a0 a : Act} (h : KeepsL ops listed a0 a) {ds : List Nat} (hds : (List.range ops.size).map (dstN ops) = ds) (k : Nat) (hk : k ∉ ds) : a.tmps.getD k undef = a0.tmps.getD k undef :=
  h.other k fun i hi _ e => hk (by rw [← hds, List.mem_map]; exact ⟨i, List.mem_range.2 hi, e⟩)
theorem KeepsL.yet {listed : Array Bool} {a0 a : Act} (h : KeepsL ops listed a0 a) (k m : Nat) (hl : listed.getD m true = false) (hu : ((List.range ops.size).all fun i => decide (i = m) || decide (dstN ops i ≠ k)) = true) : a.tmps.getD k undef = a0.tmps.getD k undef :=
  h.other k fun i hi hl2 e => by
    have := List.all_eq_true.1 hu i (List.mem_range.2 hi)
    rcases Bool.or_eq_true_iff.1 this with q | q
    · rw [of_decide_eq_true q, hl] at hl2; cases hl2
    · exact of_decide_eq_true q e
theorem getD_ft {listed : Array Bool} {i : Nat} (h : i < listed.size) : listed.getD i false = listed.getD i true := by
  simp [Array.getD_eq_getD_getElem?, Array.getElem?_eq_getElem h]
theorem unl_of {md : Region.Mode} {listed : Array Bool} {i j : Nat} {oj : Oper} {e : Edge} (hs : listed.size = ops.size) (hun : listed.getD i true = false) (hcl : ∀ (j : Nat) (oj : Oper), ops[j]? = some oj → listed.getD j true = true → ∀ e ∈ oj.after, Region.binds md e = true → listed.getD e.on false = true)
    (hj : ops[j]? = some oj) (he : e ∈ oj.after) (hb : Region.binds md e = true) (hi : e.on = i) (hlt : i < ops.size) : listed.getD j true = false := by
  cases hq : listed.getD j true with
  | false => rfl
  | true =>
    have := hcl j oj hj hq e he hb
    rw [hi, getD_ft (by omega), hun] at this; cases this
end
end Go.Proofs.YtedbbinlcdgkoaaGreatDoor

/- Layer 19: the two regions of ConfigLayout that write the lines. -/
namespace Go.Proofs.YtedbbinlcdgkoaaGreatDoor
open Go.RowKit Go.Lib
set_option linter.unusedVariables false
set_option linter.unusedSimpArgs false
def sv (w : Bs) : Value := .string ⟨w.toArray⟩
theorem sv_cells (w : Bs) : (sv w).cells = #[sv w] := rfl
theorem repL_strs {S : Sit} : ∀ {L : List Bs} {xs : List Value}, RepL S (L.map strR).flatten xs → xs = L.map sv
  | [], xs, h => h
  | w :: L, xs, h => by
    obtain ⟨u, us, h1, h2, h3⟩ := h
    have h2 : u = sv w := h2
    rw [h1, h2, repL_strs h3]; rfl
theorem strs_repL (S : Sit) : ∀ L : List Bs, RepL S (L.map strR).flatten (L.map sv)
  | [] => rfl
  | w :: L => ⟨sv w, L.map sv, rfl, rfl, strs_repL S L⟩
theorem strs_one (L : List Bs) : ∀ u ∈ L.map sv, u.oneCell' = true := fun u hu => by
  obtain ⟨w, _, rfl⟩ := List.mem_map.1 hu; rfl
def rowA (L : List Bs) (rest : List Value) : Array Value := (L.map sv ++ rest).toArray
theorem rowA_put {L : List Bs} {rest : List Value} {p : Nat} (hp : p < L.length) (w : Bs) : (((rowA L rest).toList.take p ++ [sv w] ++ (rowA L rest).toList.drop (p + 1)).toArray) = rowA (L.set p w) rest := by
  unfold rowA
  congr 1
  simp only [List.toList_toArray]
  rw [List.take_append_of_le_length (by rw [List.length_map]; omega), List.drop_append_of_le_length (by rw [List.length_map]; omega), List.map_set, List.set_eq_take_append_cons_drop, if_pos (by rw [List.length_map]; exact hp)]
  simp
theorem rowA_size (L : List Bs) (rest : List Value) : (rowA L rest).size = L.length + rest.length := by unfold rowA; simp
theorem rowA_cell {W : World} {g p : Nat} {L : List Bs} {rest : List Value} {t : TypeId} (hg : W.heap[g]? = some (.cells (rowA L rest) t (0, 0))) (hp : p < L.length) : W.cell? ⟨g, p, none⟩ = some (sv L[p]) := by
  rw [cell_of_row _ _ _ _ _ _ hg]
  unfold rowA
  rw [List.getElem?_toArray, List.getElem?_append_left (by rw [List.length_map]; exact hp), List.getElem?_map, List.getElem?_eq_getElem hp]; rfl
theorem store_str {W : World} {g p : Nat} {L : List Bs} {rest : List Value} {w : Bs} (hg : W.heap[g]? = some (.cells (rowA L rest) 9 (0, 0))) (hp : p < L.length) : (Instr.storeAt 9 (.pointer (some ⟨g, p, none⟩)) (sv w)).run Tryz.prog W = .ok () (W.setRow g (rowA (L.set p w) rest)) := by
  have hE : tt 9 = some ⟨.str, 1, 16, [Value.string ⟨#[]⟩], false⟩ := rfl
  have hsz := (tt_ok _ _ hE).sizeOf W
  have hst := run_storeCells_at Tryz.prog g p 9 [sv w] 0 (rowA L rest) W hg (by rw [rowA_size]; simp; omega) (fun u hu => by rw [List.mem_singleton] at hu; rw [hu]; rfl)
  simp only [Nat.add_zero, List.length_cons, List.length_nil, Nat.zero_add] at hst
  rw [rowA_put hp] at hst
  simp only [Instr.storeAt, Instr.sureAddr, storeVar, Sem.run_bind, Sem.run_pure, Result.andThen_ok, hsz]
  rw [if_neg (by rw [sv_cells]; simp), sv_cells]
  exact hst
def InsOk (W : World) (g : Nat) (L : List Bs) (p : Nat) (r : Bs) (v : Value) (w : World) : Prop :=
  w.ownsRow 0 9 1 v (p + (1 + (L.length - p))) ((L.take p).map sv ++ ([sv r] ++ (L.drop p).map sv)) ∧ (∀ b, v.ownBlock = some b → b = g ∨ W.heap.size ≤ b) ∧ Chg [g] W w
theorem InsOk.keep {W : World} {g : Nat} {L : List Bs} {p : Nat} {r : Bs} {v : Value} {w w' : World} (h : InsOk W g L p r v w) (hc : Chg [] w w') : InsOk W g L p r v w' :=
  ⟨ownK_keep1 h.1 hc, h.2.1, h.2.2.trans (hc.weaken (by simp))⟩
theorem info_str : (Tryz.prog.info? 9).map (fun i => (i.zero, i.size, i.bytes)) = some (some (Value.string ⟨#[]⟩), 1, 16) := by kernel_rfl
end Go.Proofs.YtedbbinlcdgkoaaGreatDoor

/- A region that draws its order, walked operation by operation: what each operation yields, whatever came before. No program in sight. -/
import Derived.Orders
import Derived.Test.YtmmhokcdchhciaaFrame
namespace Go.Proofs.Ytmmhokcdchhciaa
open Go.RowKit

/-- where operation i writes -/
def dstOf (ops : Array Oper) (i : Nat) : Nat := ((ops[i]?).bind (·.dst)).getD 0
/-- how many of the first n are unlisted -/
def unl : Nat → Array Bool → Nat
  | 0, _ => 0
  | n + 1, l => unl n l + if l.getD n true then 0 else 1
theorem unl_set_ge : ∀ (n : Nat) (l : Array Bool) (i : Nat), n ≤ i → unl n (l.setIfInBounds i true) = unl n l
  | 0, _, _, _ => rfl
  | n + 1, l, i, h => by
    have e : (l.setIfInBounds i true).getD n true = l.getD n true := by
      simp only [Array.getD_eq_getD_getElem?, Array.getElem?_setIfInBounds]
      rw [if_neg (by omega)]
    rw [unl, unl, unl_set_ge n l i (by omega), e]
theorem unl_set : ∀ (n : Nat) (l : Array Bool) (i : Nat), i < n → l.getD i true = false → unl n (l.setIfInBounds i true) + 1 = unl n l
  | 0, _, _, h, _ => by omega
  | n + 1, l, i, h, hf => by
    have hi : i < l.size := by
      rcases Nat.lt_or_ge i l.size with h' | h'
      · exact h'
      · simp [Array.getD_eq_getD_getElem?, Array.getElem?_eq_none h'] at hf
    by_cases e : i = n
    · subst e
      rw [unl, unl, unl_set_ge i l i (Nat.le_refl _), hf]
      have : (l.setIfInBounds i true).getD i true = true := by
        simp only [Array.getD_eq_getD_getElem?, Array.getElem?_setIfInBounds]
        simp [hi]
      rw [this]; simp
    · have e2 : (l.setIfInBounds i true).getD n true = l.getD n true := by
        simp only [Array.getD_eq_getD_getElem?, Array.getElem?_setIfInBounds]
        rw [if_neg e]
      rw [unl, unl, e2, ← unl_set n l i (by omega) hf]
      omega
theorem unl_zero : ∀ (n : Nat) (l : Array Bool), unl n l = 0 → ∀ i, i < n → l.getD i true = true
  | 0, _, _, _, h => by omega
  | n + 1, l, h, i, hi => by
    rw [unl] at h
    by_cases e : i = n
    · subst e
      cases hh : l.getD i true with
      | true => rfl
      | false => rw [hh] at h; simp at h
    · exact unl_zero n l (by omega) i (by omega)
theorem unl_full (n : Nat) : unl n (Array.replicate n false) = n := by
  have h : ∀ m, m ≤ n → unl m (Array.replicate n false) = m := by
    intro m
    induction m with
    | zero => intro _; rfl
    | succ m ih =>
      intro hm
      have : (Array.replicate n false).getD m true = false := by
        simp only [Array.getD_eq_getD_getElem?, Array.getElem?_replicate]
        rw [if_pos (by omega)]; rfl
      rw [unl, ih (by omega), this]; simp
  exact h n (Nat.le_refl _)

/-- a state that differs from a0 in what the region writes alone -/
structure Keeps (ops : Array Oper) (a0 a : Act) : Prop where
  defers : a.defers = a0.defers
  size : a.tmps.size = a0.tmps.size
  other : ∀ k, (∀ i, i < ops.size → dstOf ops i ≠ k) → a.tmps.getD k undef = a0.tmps.getD k undef

section
variable {P : Program} {ops : Array Oper} {Q : Exit → Act → World → Prop} {md : Region.Mode}

theorem ready_spec {listed : Array Bool} {i : Nat} (h : i ∈ Region.ready md ops listed) : listed.getD i true = false ∧ i < ops.size ∧ ∃ o, ops[i]? = some o ∧ ∀ e ∈ o.after, Region.binds md e = true → listed.getD e.on false = true := by
  simp only [Region.ready, List.mem_filter, List.mem_range, Bool.and_eq_true, Bool.not_eq_true'] at h
  obtain ⟨h1, h2, h3⟩ := h
  refine ⟨h2, h1, ops[i], Array.getElem?_eq_getElem h1, ?_⟩
  rw [Array.getElem?_eq_getElem h1] at h3
  simp only [Option.map_some, Option.getD_some, Array.all_eq_true_iff_forall_mem, Bool.or_eq_true, Bool.not_eq_true'] at h3
  intro e he hb
  rcases h3 e he with h4 | h4
  · rw [hb] at h4; cases h4
  · exact h4

theorem ready_least (hlt : ∀ (i : Nat) (o : Oper), ops[i]? = some o → ∀ e ∈ o.after, e.on < i) {listed : Array Bool} (hr : Region.ready md ops listed = []) : ∀ i, i < ops.size → listed.getD i true = true := by
  intro i
  induction i using Nat.strongRecOn with
  | ind i ih =>
    intro hi
    cases hl : listed.getD i true with
    | true => rfl
    | false =>
      exfalso
      have hm : i ∈ Region.ready md ops listed := by
        simp only [Region.ready, List.mem_filter, List.mem_range, Bool.and_eq_true, Bool.not_eq_true']
        refine ⟨hi, hl, ?_⟩
        rw [Array.getElem?_eq_getElem hi]
        simp only [Option.map_some, Option.getD_some, Array.all_eq_true_iff_forall_mem, Bool.or_eq_true, Bool.not_eq_true']
        intro e he
        have h1 := hlt i _ (Array.getElem?_eq_getElem hi) e he
        have h2 := ih e.on h1 (by omega)
        have hi2 : i < listed.size := by
          rcases Nat.lt_or_ge i listed.size with h' | h'
          · exact h'
          · simp [Array.getD_eq_getD_getElem?, Array.getElem?_eq_none h'] at hl
        right
        simp only [Array.getD_eq_getD_getElem?] at h2 ⊢
        rw [Array.getElem?_eq_getElem (by omega)] at h2 ⊢
        simpa using h2
      rw [hr] at hm
      cases hm

theorem wpAny_flowG (F : Nat → Value → World → Prop) (G : World → Prop) (R : World → World → Prop) (a0 : Act)
    (hF : ∀ i v w w', F i v w → R w w' → F i v w') (hRR : ∀ w, R w w)
    (hlt : ∀ (i : Nat) (o : Oper), ops[i]? = some o → ∀ e ∈ o.after, e.on < i)
    (hdst : ∀ (i : Nat) (o : Oper), ops[i]? = some o → o.dst = some (dstOf ops i) ∧ dstOf ops i < a0.tmps.size)
    (hinj : ∀ i j, i < ops.size → j < ops.size → dstOf ops i = dstOf ops j → i = j)
    (hstep : ∀ (i : Nat) (o : Oper), ops[i]? = some o → ∀ (a : Act) (w : World), G w → Keeps ops a0 a → (∀ e ∈ o.after, Region.binds md e = true → F e.on (a.tmps.getD (dstOf ops e.on) undef) w) →
      if Region.wanted o (yielded ops a.tmps) = true then o.wp P a w (fun a' w' => ∃ v, a' = a.put o.dst v ∧ F i v w' ∧ R w w' ∧ G w') Q else F i undef w)
    (hend : ∀ a w, Keeps ops a0 a → (∀ i, i < ops.size → F i (a.tmps.getD (dstOf ops i) undef) w) → G w → Q .normal a w) :
    ∀ (fuel : Nat) (listed : Array Bool) (a : Act) (w : World), unl ops.size listed = fuel → listed.size = ops.size → Keeps ops a0 a → G w →
      (∀ i, i < ops.size → listed.getD i true = true → F i (a.tmps.getD (dstOf ops i) undef) w) → wpAny P md ops Q fuel listed a w := by
  intro fuel
  induction fuel with
  | zero =>
    intro listed a w hu hsz hk hg hf
    have hall := unl_zero _ _ hu
    refine ⟨?_, hend a w hk (fun i hi => hf i hi (hall i hi)) hg⟩
    cases hr : Region.ready md ops listed with
    | nil => rfl
    | cons x xs =>
      have hx : x ∈ Region.ready md ops listed := by rw [hr]; exact List.mem_cons_self
      obtain ⟨h1, h2, _⟩ := ready_spec hx
      rw [hall x h2] at h1
      cases h1
  | succ fuel ih =>
    intro listed a w hu hsz hk hg hf
    refine ⟨fun hr => ?_, fun i hi => ?_⟩
    · have hall := ready_least hlt hr
      exact hend a w hk (fun i hi => hf i hi (hall i hi)) hg
    · obtain ⟨h1, h2, o, ho, hdeps⟩ := ready_spec hi
      obtain ⟨hd1, hd2⟩ := hdst i o ho
      have hnext : ∀ a' w', (∃ v, a' = a.put o.dst v ∧ F i v w' ∧ R w w' ∧ G w') → wpAny P md ops Q fuel (listed.setIfInBounds i true) a' w' := by
        rintro a' w' ⟨v, rfl, hv, hR, hG⟩
        have hput : ∀ k, (a.put o.dst v).tmps.getD k undef = if k = dstOf ops i then v else a.tmps.getD k undef := by
          intro k
          rw [hd1]
          simp only [Act.put, Array.getD_eq_getD_getElem?, Array.getElem?_setIfInBounds]
          by_cases hk2 : k = dstOf ops i
          · subst hk2
            rw [if_pos rfl, if_pos (by rw [hk.size]; exact hd2)]
            simp
          · rw [if_neg (fun e => hk2 e.symm), if_neg hk2]
        refine ih _ _ _ ?_ (by simpa using hsz) ⟨?_, ?_, ?_⟩ hG ?_
        · have := unl_set ops.size listed i h2 h1; omega
        · rw [hd1]; exact hk.defers
        · rw [hd1]; simp only [Act.put, Array.size_setIfInBounds]; exact hk.size
        · intro k hk2
          rw [hput, if_neg (fun e => hk2 i h2 e.symm)]
          exact hk.other k hk2
        · intro j hj hl
          rw [hput]
          by_cases hji : j = i
          · subst hji; rw [if_pos rfl]; exact hv
          · rw [if_neg (fun e => hji (hinj j i hj h2 e))]
            refine hF j _ _ _ (hf j hj ?_) hR
            have : (listed.setIfInBounds i true).getD j true = listed.getD j true := by
              simp only [Array.getD_eq_getD_getElem?, Array.getElem?_setIfInBounds]
              rw [if_neg (fun e => hji e.symm)]
            rw [← this]; exact hl
      have hs := hstep i o ho a w hg hk (by
        intro e he hb
        have h3 := hdeps e he hb
        have h4 := hlt i o ho e he
        refine hf e.on (by omega) ?_
        simp only [Array.getD_eq_getD_getElem?] at h3 ⊢
        rw [Array.getElem?_eq_getElem (by omega)] at h3 ⊢
        simpa using h3)
      unfold wpOp
      rw [ho]
      simp only
      split
      · rename_i hw
        rw [if_pos hw] at hs
        exact .inl (Oper.wp_mono hnext hs)
      · rename_i hw
        rw [if_neg hw] at hs
        exact hnext _ _ ⟨undef, rfl, hs, hRR w, hg⟩

theorem forall_lt_zero {p : Nat → Prop} : ∀ i, i < 0 → p i := fun i h => by omega
theorem forall_lt_succ {p : Nat → Prop} {n : Nat} (h : ∀ i, i < n → p i) (hn : p n) : ∀ i, i < n + 1 → p i := fun i hi => by
  rcases Nat.lt_or_ge i n with h1 | h1
  · exact h i h1
  · obtain rfl : i = n := by omega
    exact hn

/-- **A region that draws its order**: show of each operation, in whatever state, what it yields, out of what those that it waits for have yielded. -/
theorem wp_region_flow {id : Nat} {a0 : Act} {w0 : World} (hm : P.follows .mixedOrders = true) (F : Nat → Value → World → Prop) (G : World → Prop) (R : World → World → Prop)
    (hF : ∀ i v w w', F i v w → R w w' → F i v w') (hRR : ∀ w, R w w)
    (hlt : ∀ (i : Nat) (o : Oper), ops[i]? = some o → ∀ e ∈ o.after, e.on < i)
    (hdst : ∀ (i : Nat) (o : Oper), ops[i]? = some o → o.dst = some (dstOf ops i) ∧ dstOf ops i < a0.tmps.size)
    (hinj : ∀ i j, i < ops.size → j < ops.size → dstOf ops i = dstOf ops j → i = j)
    (h0 : G { w0 with drawn := w0.drawn + 1 })
    (hstep : ∀ i, i < ops.size → ∀ (o : Oper), ops[i]? = some o → ∀ (a : Act) (w : World), G w → Keeps ops a0 a → (∀ e ∈ o.after, Region.binds .any e = true → F e.on (a.tmps.getD (dstOf ops e.on) undef) w) →
      if Region.wanted o (yielded ops a.tmps) = true then o.wp P a w (fun a' w' => ∃ v, a' = a.put o.dst v ∧ F i v w' ∧ R w w' ∧ G w') Q else F i undef w)
    (hend : ∀ a w, Keeps ops a0 a → (∀ i, i < ops.size → F i (a.tmps.getD (dstOf ops i) undef) w) → G w → Q .normal a w) : (Code.region id ops true).wp P Q a0 w0 :=
  wp_region_any hm (wpAny_flowG F G R a0 hF hRR hlt hdst hinj (fun i o ho => hstep i (by
    rcases Nat.lt_or_ge i ops.size with h | h
    · exact h
    · rw [Array.getElem?_eq_none h] at ho; cases ho) o ho) hend _ _ _ _ (unl_full _) (by simp) ⟨rfl, rfl, fun _ _ => rfl⟩ h0 (fun i hi hl => by
      simp only [Array.getD_eq_getD_getElem?, Array.getElem?_replicate, hi, if_true, Option.getD_some] at hl
      cases hl))

/-- the region's shape, asked of its text -/
def flowB (ops : Array Oper) (n : Nat) : Bool :=
  (List.range ops.size).all fun i => (ops[i]?).all (fun o => o.after.all (fun e => decide (e.on < i)) && o.dst == some (dstOf ops i) && decide (dstOf ops i < n)) &&
    (List.range ops.size).all fun j => decide (i = j) || decide (dstOf ops i ≠ dstOf ops j)
def bareB (ops : Array Oper) : Bool := ops.all fun o => o.guard == none

theorem flowB_spec {n : Nat} (h : flowB ops n = true) : (∀ (i : Nat) (o : Oper), ops[i]? = some o → ∀ e ∈ o.after, e.on < i) ∧
    (∀ (i : Nat) (o : Oper), ops[i]? = some o → o.dst = some (dstOf ops i) ∧ dstOf ops i < n) ∧ (∀ i j, i < ops.size → j < ops.size → dstOf ops i = dstOf ops j → i = j) := by
  have hs : ∀ (i : Nat) (o : Oper), ops[i]? = some o → i < ops.size := fun i o ho => by
    rcases Nat.lt_or_ge i ops.size with h | h
    · exact h
    · rw [Array.getElem?_eq_none h] at ho; cases ho
  simp only [flowB, List.all_eq_true, List.mem_range, Bool.and_eq_true, Bool.or_eq_true, decide_eq_true_eq] at h
  refine ⟨fun i o ho e he => ?_, fun i o ho => ?_, fun i j hi hj he => ?_⟩
  · have h1 := (h i (hs i o ho)).1
    rw [ho] at h1
    simp only [Option.all_some, Bool.and_eq_true, Array.all_eq_true_iff_forall_mem, decide_eq_true_eq, beq_iff_eq] at h1
    exact h1.1.1 e he
  · have h1 := (h i (hs i o ho)).1
    rw [ho] at h1
    simp only [Option.all_some, Bool.and_eq_true, Array.all_eq_true_iff_forall_mem, decide_eq_true_eq, beq_iff_eq] at h1
    exact ⟨h1.1.2, h1.2⟩
  · rcases (h i hi).2 j hj with h2 | h2
    · exact h2
    · exact absurd he h2

/-- the same, its shape asked at once; guards let in -/
theorem wp_region_flowG {id : Nat} {a0 : Act} {w0 : World} (hm : P.follows .mixedOrders = true) (F : Nat → Value → World → Prop) (G : World → Prop) (R : World → World → Prop)
    (hF : ∀ i v w w', F i v w → R w w' → F i v w') (hRR : ∀ w, R w w) {n : Nat} (hn : a0.tmps.size = n) (hB : flowB ops n = true)
    (h0 : G { w0 with drawn := w0.drawn + 1 })
    (hstep : ∀ i, i < ops.size → ∀ (o : Oper), ops[i]? = some o → ∀ (a : Act) (w : World), G w → Keeps ops a0 a → (∀ e ∈ o.after, Region.binds .any e = true → F e.on (a.tmps.getD (dstOf ops e.on) undef) w) →
      if Region.wanted o (yielded ops a.tmps) = true then o.wp P a w (fun a' w' => ∃ v, a' = a.put o.dst v ∧ F i v w' ∧ R w w' ∧ G w') Q else F i undef w)
    (hend : ∀ a w, Keeps ops a0 a → (∀ i, i < ops.size → F i (a.tmps.getD (dstOf ops i) undef) w) → G w → Q .normal a w) : (Code.region id ops true).wp P Q a0 w0 :=
  wp_region_flow hm F G R hF hRR (flowB_spec hB).1 (by rw [hn]; exact (flowB_spec hB).2.1) (flowB_spec hB).2.2 h0 hstep hend

/-- the same without guards -/
theorem wp_region_flowB {id : Nat} {a0 : Act} {w0 : World} (hm : P.follows .mixedOrders = true) (F : Nat → Value → World → Prop) (G : World → Prop) (R : World → World → Prop)
    (hF : ∀ i v w w', F i v w → R w w' → F i v w') (hRR : ∀ w, R w w) {n : Nat} (hn : a0.tmps.size = n) (hB : flowB ops n = true) (hG : bareB ops = true)
    (h0 : G { w0 with drawn := w0.drawn + 1 })
    (hstep : ∀ i, i < ops.size → ∀ (o : Oper), ops[i]? = some o → ∀ (a : Act) (w : World), G w → Keeps ops a0 a → (∀ e ∈ o.after, Region.binds .any e = true → F e.on (a.tmps.getD (dstOf ops e.on) undef) w) →
      o.wp P a w (fun a' w' => ∃ v, a' = a.put o.dst v ∧ F i v w' ∧ R w w' ∧ G w') Q)
    (hend : ∀ a w, Keeps ops a0 a → (∀ i, i < ops.size → F i (a.tmps.getD (dstOf ops i) undef) w) → G w → Q .normal a w) : (Code.region id ops true).wp P Q a0 w0 :=
  wp_region_flowG hm F G R hF hRR hn hB h0 (fun i hi o ho a w hg hk hd => by
    have hgd : o.guard = none := by
      simp only [bareB, Array.all_eq_true_iff_forall_mem, beq_iff_eq] at hG
      exact hG o (Array.mem_of_getElem? ho)
    rw [if_pos (by simp [Region.wanted, hgd])]
    exact hstep i hi o ho a w hg hk hd) hend

theorem Keeps.get {a0 a : Act} (h : Keeps ops a0 a) {ds : List Nat} (hds : (List.range ops.size).map (dstOf ops) = ds) (k : Nat) (hk : k ∉ ds) : a.tmps[k]?.getD undef = a0.tmps[k]?.getD undef := by
  have := h.other k fun i hi e => hk (by rw [← hds, List.mem_map]; exact ⟨i, List.mem_range.2 hi, e⟩)
  simpa [Array.getD_eq_getD_getElem?] using this
theorem get_some {t : Array Value} {k : Nat} {b : Bool} (h : t[k]?.getD undef = .bool b) : t[k]? = some (.bool b) := by
  cases hk : t[k]? with
  | none => rw [hk] at h; cases h
  | some v => rw [hk] at h; exact congrArg some h
theorem foldl_size (f : Nat → Value) : ∀ (ds : List Nat) (t : Array Value), (ds.foldl (fun t d => t.setIfInBounds d (f d)) t).size = t.size
  | [], _ => rfl
  | d :: ds, t => by rw [List.foldl_cons, foldl_size f ds, Array.size_setIfInBounds]
theorem foldl_get (f : Nat → Value) : ∀ (ds : List Nat) (t : Array Value) (k : Nat), k < t.size → (ds.foldl (fun t d => t.setIfInBounds d (f d)) t).getD k undef = if k ∈ ds then f k else t.getD k undef
  | [], _, _, _ => by simp
  | d :: ds, t, k, hk => by
    rw [List.foldl_cons, foldl_get f ds _ k (by simpa using hk)]
    by_cases h : k ∈ ds
    · rw [if_pos h, if_pos (List.mem_cons_of_mem _ h)]
    · rw [if_neg h]
      simp only [Array.getD_eq_getD_getElem?, Array.getElem?_setIfInBounds]
      by_cases e : d = k
      · subst e; simp [hk]
      · rw [if_neg e, if_neg (by simp [h]; exact fun h2 => e h2.symm)]

/-- what stands behind the region, written out -/
theorem Keeps.act {a0 a : Act} (h : Keeps ops a0 a) (ds : List Nat) (hds : (List.range ops.size).map (dstOf ops) = ds) : a = ⟨ds.foldl (fun t d => t.setIfInBounds d (a.tmps.getD d undef)) a0.tmps, a0.defers⟩ := by
  obtain ⟨tm, df⟩ := a
  obtain ⟨h1, h2, h3⟩ := h
  simp only at h1 h2 h3
  subst h1
  congr 1
  refine Array.ext (by rw [foldl_size]; exact h2) fun k hk1 hk2 => ?_
  have hk0 : k < a0.tmps.size := by rw [← h2]; exact hk1
  have e1 : tm[k] = tm.getD k undef := by simp [Array.getD_eq_getD_getElem?, hk1]
  have e2 : ∀ (A : Array Value) (hA : k < A.size), A[k] = A.getD k undef := fun A hA => by simp [Array.getD_eq_getD_getElem?, hA]
  rw [e1, e2 _ hk2, foldl_get _ _ _ _ hk0]
  by_cases hn : k ∈ ds
  · rw [if_pos hn]
  · rw [if_neg hn]
    have h4 := h3 k fun i hi e => hn (by rw [← hds, List.mem_map]; exact ⟨i, List.mem_range.2 hi, e⟩)
    exact h4

end

end Go.Proofs.Ytmmhokcdchhciaa

import Derived.Test.YtedbbinlcdgkoaaGreatDoorVG
/- The value machine: slice literals, make, append, bytes and strings. No program in sight. -/
namespace Go.Proofs.YtedbbinlcdgkoaaGreatDoor
open Go.RowKit
set_option linter.unusedVariables false
set_option linter.unusedSimpArgs false

section
variable {P : Program} {F : Env} {β : Bet} {s : St} {a : Act} {W : World} {d : Option Nat}

def chunks (k : Nat) : Nat → List V → List (List V)
  | 0, _ => []
  | n + 1, l => l.take k :: chunks k n (l.drop k)
theorem chunks_flat (k : Nat) : ∀ (n : Nat) (l : List V), l.length = n * k → (chunks k n l).flatten = l
  | 0, l, h => by have := List.eq_nil_of_length_eq_zero (by simpa using h); rw [this]; rfl
  | n + 1, l, h => by
    rw [chunks, List.flatten_cons, chunks_flat k n (l.drop k) (by rw [List.length_drop, h, Nat.succ_mul]; omega), List.take_append_drop]
theorem chunks_len (k : Nat) : ∀ (n : Nat) (l : List V), (chunks k n l).length = n
  | 0, _ => rfl
  | n + 1, l => by rw [chunks, List.length_cons, chunks_len k n]
theorem chunks_row (k : Nat) : ∀ (n : Nat) (l : List V), l.length = n * k → ∀ r ∈ chunks k n l, r.length = k
  | 0, _, _, r, h => by cases h
  | n + 1, l, h, r, hr => by
    rcases List.mem_cons.1 hr with rfl | hr
    · rw [List.length_take, h, Nat.succ_mul]; omega
    · exact chunks_row k n (l.drop k) (by rw [List.length_drop, h, Nat.succ_mul]; omega) r hr
theorem chunks_mem (k : Nat) : ∀ (n : Nat) (l : List V), ∀ r ∈ chunks k n l, ∀ x ∈ r, x ∈ l
  | 0, _, r, h, _, _ => by cases h
  | n + 1, l, r, hr, x, hx => by
    rcases List.mem_cons.1 hr with rfl | hr
    · exact List.mem_of_mem_take hx
    · exact List.mem_of_mem_drop (chunks_mem k n (l.drop k) r hr x hx)

def zrows {α : Type} (n : Nat) (z : List α) : List α := (List.replicate n z).flatten
theorem zrows_len {α : Type} (n : Nat) (z : List α) : (zrows n z).length = n * z.length := by
  unfold zrows
  induction n with
  | zero => simp
  | succ n ih => rw [List.replicate_succ, List.flatten_cons, List.length_append, ih, Nat.succ_mul, Nat.add_comm]
theorem zrows_map {α γ : Type} (f : α → γ) (n : Nat) (z : List α) : (zrows n z).map f = zrows n (z.map f) := by
  unfold zrows; rw [List.map_flatten, List.map_replicate]
theorem zrows_get (n : Nat) (z : List Value) (hz : 0 < z.length) : zrows n z = (List.range (n * z.length)).map fun i => z.toArray[i % z.length]! := by
  induction n with
  | zero => simp [zrows]
  | succ n ih =>
    have hs : zrows (n + 1) z = zrows n z ++ z := by unfold zrows; rw [List.replicate_succ', List.flatten_append]; simp
    rw [hs, ih, Nat.succ_mul, List.range_add, List.map_append]
    congr 1
    apply List.ext_getElem
    · simp
    · intro i h1 h2
      simp only [List.getElem_map, List.getElem_range]
      rw [Nat.mul_add_mod_self_right, Nat.mod_eq_of_lt h1]
      simp [h1]
theorem zrows_mem {α : Type} {n : Nat} {z : List α} {x : α} (h : x ∈ zrows n z) : x ∈ z := by
  unfold zrows at h
  obtain ⟨l, h1, h2⟩ := List.mem_flatten.1 h
  rw [(List.mem_replicate.1 h1).2] at h2; exact h2

theorem own_hs {w : World} {B E k n : Nat} {v : Value} {xs : List Value} (h : w.ownsRow B E k v n xs) (hn : n ≠ 0) :
    ∃ g cap rest, v = .slice (some ⟨g, 0, none⟩) n cap ∧ n ≤ cap ∧ cap ≤ maxLen ∧ B ≤ g ∧ w.heap[g]? = some (.cells (xs ++ rest).toArray E (0, 0)) ∧ xs.length = n * k := by
  rcases h.2 with ⟨hv, h0⟩ | ⟨g, cap, cur, hv, hbg, hg, hnc, hcm, hcs, htake⟩
  · exact absurd h0 hn
  · refine ⟨g, cap, cur.toList.drop (n * k), hv, hnc, hcm, hbg, ?_, h.1⟩
    rw [← htake, List.take_append_drop, Array.toArray_toList]; exact hg
theorem Sim.newHot {W' : World} (h : Sim F β s a W) {d : Nat} (hd : s.o d = none) (hn : d < 1000000) (k : Nat) (E : TypeId) {rows : List (List V)} {xs : List Value} {v : Value} (hcl : cleanR rows)
    (h1 : ∀ u ∈ xs, u.oneCell' = true) (hx : RepL (sit F β s.o W) rows.flatten xs) (hW : Chg [] W W') (hown : W'.ownsRow W.heap.size E k v rows.length xs) (hlast : ∀ b, v.ownBlock = some b → b = W.heap.size) (h0 : rows ≠ []) :
    Sim F ⟨up β.pb d W.heap.size, up β.sv d undef⟩ ⟨s.t, up s.o d (some (.box E rows.flatten))⟩ a W' ∧ ∃ cap, v = .slice (some ⟨W.heap.size, 0, none⟩) rows.length cap ∧ rows.length ≤ cap ∧ cap ≤ maxLen := by
  obtain ⟨g, cap, rest, hv, hnc, hcm, _, hg, _⟩ := own_hs hown (by cases rows with | nil => exact absurd rfl h0 | cons => simp)
  have hge : g = W.heap.size := hlast g (by rw [hv]; rfl)
  subst hge
  refine ⟨?_, cap, hv, hnc, hcm⟩
  obtain ⟨hC, hR, hI⟩ := new_common h.objs h.closed hd (.box E rows.flatten) hW W.heap.size undef (Nat.le_refl _)
  have hR2 : ∀ r, RefOk s.o r → RefOk (up s.o d (some (.box E rows.flatten))) r := fun r hr => (refOk_new hd _ r hr).2
  refine ⟨⟨h.objs.base.step (h.objs.chg.trans (hW.weaken (by simp))) (new_blk (W := W) (.box E rows.flatten) _ _ (Nat.le_refl _)) (new_kin hd hn _ _ _) hC, fun o T' c' ho => ?_, fun o k' E' rows' ho => ?_, hI, fun o es ho => ?_⟩, ⟨fun i r hr => hR2 r (h.closed.t i r hr), fun o T' c' ho => ?_⟩, fun i => move_all hC hR (h.closed.t i) (h.frame i), h.defers.chg hW (by simp), h.size⟩
  · by_cases e : o = d
    · subst e
      simp only [up_same] at ho; injection ho with ho; injection ho with e1 e2; subst e1; subst e2
      exact ⟨.inr (by simp only [up_same]; exact h.objs.chg.size), xs, rest, by simp only [up_same]; exact hg, h1, move_allL hC hR (by rw [clean_flat hcl]; simp) hx⟩
    · simp only [up_other _ _ e] at ho ⊢
      obtain ⟨g1, us, rs, g2, g3, g4⟩ := h.objs.box o T' c' ho
      exact ⟨g1, us, rs, hW.heap g2 (by simp), g3, move_allL hC hR (h.closed.o o T' c' ho) g4⟩
  · by_cases e : o = d
    · subst e; simp only [up_same] at ho; cases ho
    · simp only [up_other _ _ e] at ho ⊢
      obtain ⟨g1, g2, g0, ys, g3, g4, g5⟩ := h.objs.arr o k' E' rows' ho
      exact ⟨g1, g2, g0, ys, ownK_keep1 g3 hW, g4, move_allL hC hR (by rw [clean_flat g2]; simp) g5⟩
  · by_cases e : o = d
    · subst e; simp only [up_same] at ho; cases ho
    · simp only [up_other _ _ e] at ho
      exact (h.objs.map o es ho).keep (by simp only [up_other _ _ e]) (fun x hx => hW.heap hx (by simp)) hC
  · intro r hr'
    by_cases e : o = d
    · subst e
      simp only [up_same] at ho; injection ho with ho; injection ho with e1 e2; subst e1; subst e2
      rw [clean_flat hcl] at hr'; cases hr'
    · simp only [up_other _ _ e] at ho
      exact hR2 r (h.closed.o o T' c' ho r hr')
theorem does_new {W' : World} (h : Sim F β s a W) {i : Nat} (hi : i < F.n) (hn : s.o i = none) (k : Nat) (E : TypeId) {n : Nat} {rows : List (List V)} {xs : List Value} {v : Value} (hlen : rows.length = n) (hk : ∀ r ∈ rows, r.length = k) (hcl : cleanR rows)
    (h1 : ∀ u ∈ xs, u.oneCell' = true) (hx : RepL (sit F β s.o W) rows.flatten xs) (hW : Chg [] W W') (hown : W'.ownsRow W.heap.size E k v rows.length xs) (hlast : ∀ b, v.ownBlock = some b → b = W.heap.size) {p : Prop}
    {m : Sem Value} (hm : m.run P W = .ok v W') (hot : Bool) (h0 : (heatB hot ⟨p, .own i n, .new (.arr k E rows)⟩).pre) : Does P F m s a W (some i) (heatB hot ⟨p, .own i n, .new (.arr k E rows)⟩) := by
  have hdn := Nat.lt_of_lt_of_le hi h.objs.base.nn
  cases hot with
  | false =>
    have h2 := h.newArr hn hdn k E hk hcl h1 hx hW hown (fun b hb => Nat.le_of_eq (hlast b hb).symm)
    refine ⟨_, _, ⟨up β.pb i 0, up β.sv i v⟩, hm, ?_⟩
    refine h2.put (some i) (fun j hj => by injection hj with hj; subst hj; exact hi) (x := .own i n) (by
      intro q hq; simp only [V.refs, List.mem_singleton] at hq; subst hq; exact ⟨k, E, rows, up_same _ _ _, by omega⟩) ⟨(by
        obtain ⟨ad, cap, hv, _⟩ := h2.objs.shape (o := i) (up_same _ _ _)
        simp only [up_same] at hv
        exact ⟨ad, cap, by rw [← hlen]; exact hv⟩), fun w hw => by
      have hw : svOf _ _ i n = some w := hw
      unfold svOf at hw
      simp only [up_same, hlen, if_true, Option.some.injEq] at hw; exact hw⟩
  | true =>
    obtain ⟨h2, cap, hv, c1, c2⟩ := h.newHot hn hdn k E hcl h1 hx hW hown hlast h0.2
    refine ⟨_, _, ⟨up β.pb i W.heap.size, up β.sv i undef⟩, hm, ?_⟩
    refine h2.put (some i) (fun j hj => by injection hj with hj; subst hj; exact hi) (x := .hs i n) (by
      intro q hq; simp only [V.refs, List.mem_singleton] at hq; subst hq; exact ⟨_, up_same _ _ _, rfl⟩) ?_
    refine ⟨cap, ?_, by omega, c2⟩
    show v = .slice (some ⟨up β.pb i W.heap.size i, 0, none⟩) n cap
    rw [up_same, ← hlen]; exact hv
theorem newRow_arr (h : Sim F β s a W) {i : Nat} (hi : i < F.n) (hn : s.o i = none) (k : Nat) (E : TypeId) {n c : Nat} {rows : List (List V)} {xs ys : List Value} (hlen : rows.length = n) (hk : ∀ r ∈ rows, r.length = k) (hcl : cleanR rows)
    (h1 : ∀ u ∈ xs, u.oneCell' = true) (hx : RepL (sit F β s.o W) rows.flatten xs) (hnc : n ≤ c) (hc : c ≤ maxLen) (hsz : (xs ++ ys).length = c * k) {p : Prop}
    {m : Sem Value} (hm : m.run P W = .ok (.slice (some ⟨W.heap.size, 0, none⟩) n c) (W.alloc (.cells (xs ++ ys).toArray E))) (hot : Bool) (h0 : (heatB hot ⟨p, .own i n, .new (.arr k E rows)⟩).pre) : Does P F m s a W (some i) (heatB hot ⟨p, .own i n, .new (.arr k E rows)⟩) := by
  have hxl : xs.length = n * k := by rw [RepL.length hx, flatten_len hk, hlen]
  refine does_new h hi hn k E hlen hk hcl h1 hx (Chg.alloc [] W (.cells (xs ++ ys).toArray E)) (by
    rw [hlen]
    refine ⟨hxl, .inr ⟨W.heap.size, c, _, rfl, Nat.le_refl _, heap_alloc_new W _, hnc, hc, by simpa using hsz, ?_⟩⟩
    rw [← hxl]; simp) (by intro b hb; simp only [Value.ownBlock, Option.some.injEq] at hb; exact hb.symm) hm hot h0

def viewParts (vw : V → Option V) : List (Nat × V) → Option (List (Nat × V))
  | [] => some []
  | (i, x) :: l => match vw x, viewParts vw l with
    | some y, some m => some ((i, y) :: m)
    | _, _ => none
theorem viewParts_ok {os : Nat → Option Ob} (h : Objs F β os W) : ∀ {l m : List (Nat × V)} {vs : List (Nat × Value)}, viewParts (view os) l = some m → PartsRep (sit F β os W) l vs → PartsRep (sit F β os W) m vs ∧ ∀ y ∈ m, y.2.refs = []
  | [], m, vs, hv, hr => by simp only [viewParts, Option.some.injEq] at hv; subst hv; exact ⟨hr, by simp⟩
  | (i, x) :: l, m, vs, hv, hr => by
    cases hr with
    | cons hx hl =>
      simp only [viewParts] at hv
      split at hv
      · rename_i y ys h1 h2
        injection hv with hv; subst hv
        obtain ⟨k1, k2⟩ := view_rep h _ _ _ h1 hx
        obtain ⟨k3, k4⟩ := viewParts_ok h h2 hl
        exact ⟨.cons k1 k3, fun z hz => by rcases List.mem_cons.1 hz with rfl | hz; exact k2; exact k4 z hz⟩
      · cases hv

def buildSliceV (τ : TT) (T : TypeId) (n : Nat) (parts : Option (List (Nat × V))) (d : Option Nat) : Option Res :=
  match τ T, parts, d with
  | some ti, some ps, some i => (match ti.k with
    | .slc e => (match τ e with
      | some te => if n * te.size ≤ 16777216 ∧ 0 < te.size then (match fillV (fun i => some (i * te.size, te.size)) (zrows n (te.zero.map ofVal)) ps with
        | some c => some ⟨True, .own i n, .new (.arr te.size e (chunks te.size n c))⟩
        | none => none) else none
      | none => none)
    | _ => none)
  | _, _, _ => none
theorem buildSliceV_ok {τ : TT} (hτ : TTOk P τ) (h : Sim F β s a W) (hd : ∀ i, d = some i → i < F.n) {T : TypeId} {n : Nat} {parts : Array (Nat × Operand)} {r : Res}
    (hr : buildSliceV τ T n (viewParts (view s.o) (parts.toList.map fun p => (p.1, evalV s p.2))) d = some r) (hn : ∀ i, d = some i → s.o i = none) (hot : Bool) (hp : (heatB hot r).pre) :
    Does P F (Instr.buildSlice T n (parts.map fun (i, x) => (i, a.eval x))) s a W d (heatB hot r) := by
  unfold buildSliceV at hr
  split at hr <;> try (cases hr; done)
  rename_i ti ps i hti hps
  split at hr <;> try (cases hr; done)
  rename_i e hk
  split at hr <;> try (cases hr; done)
  rename_i te hte
  split at hr <;> try (cases hr; done)
  rename_i hlim
  obtain ⟨hlim, hpos⟩ := hlim
  split at hr <;> try (cases hr; done)
  rename_i c hc
  injection hr with hr; subst hr
  have hkk := (hτ T ti hti).k
  rw [hk] at hkk
  have hok := hτ e te hte
  obtain ⟨z, hz, hzc⟩ := hok.zeroValue W
  have hs := hok.sizeOf W
  have hzl : z.cells.toList.length = te.size := by rw [hzc]; exact hok.zlen
  have hzl' : z.cells.size = te.size := by rw [← hzl]; simp
  have hf2 := forall2_map (S := sit F β s.o W) (evalV s) a.eval (fun x => (eval_rep h x).1) parts.toList
  obtain ⟨hp1, hp2⟩ := viewParts_ok h.objs hps hf2
  have hzr : RepL (sit F β s.o W) (zrows n (te.zero.map ofVal)) (zrows n te.zero) := by rw [← zrows_map]; exact ofVal_repL _ _
  obtain ⟨cs', k1, k2, k3, k4, k5⟩ := fill_ok hc hp1 hzr (fun u hu => hok.zone u (zrows_mem hu))
  have hcl : c.length = n * te.size := by rw [k4, zrows_len, List.length_map, hok.zlen]
  have hclean : V.refsL c = [] := by
    cases hq : V.refsL c with
    | nil => rfl
    | cons q qs =>
      exfalso
      have hq' : q ∈ V.refsL c := by rw [hq]; simp
      have : ∃ x ∈ c, q ∈ x.refs := by
        clear hq k2 k4 k5 hcl hc hp
        induction c with
        | nil => cases hq'
        | cons x xs ih =>
          rcases List.mem_append.1 hq' with k | k
          · exact ⟨x, List.mem_cons_self, k⟩
          · obtain ⟨y, h1, h2⟩ := ih k; exact ⟨y, List.mem_cons_of_mem _ h1, h2⟩
      obtain ⟨x, hx, hqx⟩ := this
      rcases k5 x hx with k | ⟨y, hy, l, hl, hxl⟩
      · rw [← zrows_map] at k
        have := refsL_mem k q hqx; rw [ofVal_refsL] at this; cases this
      · have := refsL_mem hxl q hqx
        rw [cells_refs hl, hp2 y hy] at this; cases this
  refine newRow_arr (xs := cs') (ys := []) h (hd i rfl) (hn i rfl) te.size e (chunks_len _ _ _) (chunks_row _ _ _ hcl) (fun r hr => ?_) k3 (by rw [chunks_flat _ _ _ hcl]; exact k2) (Nat.le_refl _) (by
    have : n ≤ n * te.size := Nat.le_mul_of_pos_right n hpos
    unfold maxLen; omega) (by simpa [RepL.length k2] using hcl) ?_ hot hp
  · have : ∀ q ∈ V.refsL r, q ∈ V.refsL c := refsL_sub (chunks_mem _ _ _ r hr)
    cases hq : V.refsL r with
    | nil => rfl
    | cons q qs => have := this q (by rw [hq]; simp); rw [hclean] at this; cases this
  · have hparts : (parts.map fun (i, x) => (i, a.eval x)).toList = parts.toList.map fun p => (p.1, a.eval p.2) := by simp
    have hzz : ((Array.range (n * te.size)).map fun (i : Nat) => z.cells[i % z.cells.size]!) = (zrows n te.zero).toArray := by
      apply Array.ext'
      rw [← hzc, zrows_get n _ (by rw [hzl]; exact hpos)]
      simp [hzl']
    have hmod : ¬ (n * te.size > 2 ^ 24) := by omega
    by_cases h0 : n * te.size = 0
    · have hzz0 : ((Array.range (n * te.size)).map fun (i : Nat) => (#[] : Array Value)[i % (#[] : Array Value).size]!) = (zrows n te.zero).toArray := by
        have : zrows n te.zero = [] := List.eq_nil_of_length_eq_zero (by rw [zrows_len, hok.zlen]; exact h0)
        rw [this, h0]; simp
      have hfin : (Instr.buildSlice T n (parts.map fun (i, x) => (i, a.eval x))).run P W = .ok (.slice (some ⟨W.heap.size, 0, none⟩) n n) (W.alloc (.cells cs'.toArray e)) := by
        unfold Instr.buildSlice
        simp only [Sem.run_bind, run_underlying hkk, Result.andThen_ok, hs, hmod, if_false, Sem.run_pure]
        rw [if_pos h0]
        simp only [Sem.run_bind, Sem.run_pure, Result.andThen_ok, hzz0, hparts, k1]
        rfl
      simpa using hfin
    · have hfin : (Instr.buildSlice T n (parts.map fun (i, x) => (i, a.eval x))).run P W = .ok (.slice (some ⟨W.heap.size, 0, none⟩) n n) (W.alloc (.cells cs'.toArray e)) := by
        unfold Instr.buildSlice
        simp only [Sem.run_bind, run_underlying hkk, Result.andThen_ok, hs, hmod, if_false, Sem.run_pure]
        rw [if_neg h0]
        simp only [Sem.run_bind, hz, Sem.run_pure, Result.andThen_ok, hzz, hparts, k1]
        rfl
      simpa using hfin

def bytesR (l : List UInt8) : List (List V) := l.map fun c => [V.int .u8 (c.toNat : Int)]

def itemsV (τ : TT) (tx : TypeId) (k : Nat) (vw : Option V) : Option (List (List V)) :=
  match τ tx with
  | some ti => (match ti.k, vw with
    | .slc _, some (.sl k' rows) => if k' = k then some rows else none
    | .slc _, some .nil => some []
    | .str, some (.str l) => if k = 1 then some (bytesR l) else none
    | _, _ => none)
  | none => none
def apV (τ : TT) (t tx : TypeId) (s : V) (ob : Option Ob) (vx : Option V) (d : Option Nat) : Option Res :=
  match τ t, d with
  | some ti, some i => (match ti.k with
    | .slc e => (match τ e with
      | some te => if 0 < te.size ∧ te.bytes ≤ 1000 then (match itemsV τ tx te.size vx with
        | some items => (match s, ob with
          | .own o n, some (.arr k E rows) => if k = te.size ∧ E = e then some ⟨n = rows.length ∧ rows.length + items.length ≤ 1000000000, .own o (rows ++ items).length, .set o (.arr k E (rows ++ items))⟩ else none
          | .nil, _ => some ⟨items.length ≤ 1000000000, .own i items.length, .new (.arr te.size e items)⟩
          | _, _ => none)
        | none => none) else none
      | none => none)
    | _ => none)
  | _, _ => none

theorem bytes_repL (S : Sit) : ∀ l : List UInt8, RepL S (bytesR l).flatten (l.map fun b => Value.int .u8 (b.toNat : Int))
  | [] => rfl
  | c :: l => ⟨_, _, rfl, rfl, bytes_repL S l⟩
theorem itemsV_none (τ : TT) (tx : TypeId) (k : Nat) : itemsV τ tx k none = none := by
  unfold itemsV
  cases τ tx with
  | none => rfl
  | some ti => cases h : ti.k <;> simp only [h]
theorem itemsV_ok {τ : TT} (hτ : TTOk P τ) (h : Sim F β s a W) {tx : TypeId} {k : Nat} {x y : V} {v : Value} (hv : view s.o x = some y) {items : List (List V)} (hi : itemsV τ tx k (some y) = some items) (hx : Rep (sit F β s.o W) x v) :
    ∃ news, Src P k tx v items.length news W ∧ RepL (sit F β s.o W) items.flatten news ∧ (∀ r ∈ items, r.length = k) ∧ cleanR items := by
  have hy := (view_rep h.objs _ _ _ hv hx).1
  unfold itemsV at hi
  split at hi <;> try (cases hi; done)
  rename_i ti hti
  have hkk := (hτ tx ti hti).k
  split at hi <;> try (cases hi; done)
  · rename_i e k' rows hk he
    injection he with he; subst he
    rw [hk] at hkk
    split at hi <;> try (cases hi; done)
    rename_i hkk'
    injection hi with hi; subst hi; subst hkk'
    obtain ⟨ad, cap, rfl, g1, g2, g3, g4, g5, g6⟩ := hy
    cases ad with
    | none =>
      have := g3 rfl; subst this
      exact ⟨[], Src.ofNil W hkk cap, rfl, g4, g5⟩
    | some x0 =>
      by_cases hr0 : rows = []
      · subst hr0
        exact ⟨[], Src.ofSlice W hkk x0 0 cap [] (by simp) (fun j u hj => by simp at hj) (fun c hc => by cases hc), rfl, by simp, fun r hr => by cases hr⟩
      obtain ⟨k1, k2⟩ := g6 x0 rfl
      have k1 := k1 hr0
      obtain ⟨b, o, sp⟩ := x0
      simp only at k1 k2; subst k1
      obtain ⟨cs, c1, c2, c3⟩ := (AtR.flat.1 k2).cells
      exact ⟨cs, Src.ofSlice W hkk ⟨b, o, none⟩ rows.length cap cs (by rw [RepL.length c1, flatten_len g4]) (fun j u hj => by rw [add_at]; exact c3 j u hj) c2, c1, g4, g5⟩
  · rename_i e hk he
    injection he with he; subst he
    rw [hk] at hkk
    injection hi with hi; subst hi
    have hy : v = .slice none 0 0 := hy
    subst hy
    exact ⟨[], Src.ofNil W hkk 0, rfl, by simp, fun r hr => by cases hr⟩
  · rename_i l hk he
    injection he with he; subst he
    rw [hk] at hkk
    split at hi <;> try (cases hi; done)
    rename_i hk1
    injection hi with hi; subst hi; subst hk1
    have hy : v = .string ⟨l.toArray⟩ := hy
    subst hy
    have := Src.ofString (P := P) W hkk ⟨l.toArray⟩
    rw [vb_size] at this
    refine ⟨byteCells ⟨l.toArray⟩, by simpa [bytesR] using this, ?_, fun r hr => ?_, fun r hr => ?_⟩
    · unfold byteCells
      simp only [List.toList_toArray]
      exact bytes_repL _ l
    · obtain ⟨c, _, rfl⟩ := List.mem_map.1 hr; rfl
    · obtain ⟨c, _, rfl⟩ := List.mem_map.1 hr; rfl

theorem apV_ok {τ : TT} (hτ : TTOk P τ) (h : Sim F β s a W) (hd : ∀ i, d = some i → i < F.n) {t tx ty : TypeId} {x y : V} {r : Res} (hr : apV τ t tx x (obV s.o x) (view s.o y) d = some r) (hot : Bool) (hp : (heatB hot r).pre)
    (hn : ∀ i X, d = some i → r.upd = .new X → s.o i = none) {u v : Value} (hx : Rep (sit F β s.o W) x u) (hy : Rep (sit F β s.o W) y v) : Does P F (Builtin.append_ #[t, tx] ty #[u, v]) s a W d (heatB hot r) := by
  unfold apV at hr
  split at hr <;> try (cases hr; done)
  rename_i ti i hti
  split at hr <;> try (cases hr; done)
  rename_i e hk
  split at hr <;> try (cases hr; done)
  rename_i te hte
  split at hr <;> try (cases hr; done)
  rename_i hlim
  obtain ⟨hpos, hby⟩ := hlim
  split at hr <;> try (cases hr; done)
  rename_i items hit
  have hkk := (hτ t ti hti).k
  rw [hk] at hkk
  have hok := hτ e te hte
  obtain ⟨inf, z, i1, i2, i3, i4, i5⟩ := hok.info
  cases hvw : view s.o y with
  | none => rw [hvw, itemsV_none] at hit; cases hit
  | some y' =>
    rw [hvw] at hit
    obtain ⟨news, n1, n2, n3, n4⟩ := itemsV_ok hτ h hvw hit hy
    have hzs : z.cells.size = inf.size := by rw [i2, ← hok.zlen, ← i5]; simp
    split at hr <;> try (cases hr; done)
    · rename_i o n k E rows ho
      split at hr <;> try (cases hr; done)
      rename_i hkE
      obtain ⟨rfl, rfl⟩ := hkE
      injection hr with hr; subst hr
      have hheat : ∀ r : Res, (∀ X, r.upd ≠ .new X) → heatB hot r = r := fun r hX => by
        cases hot with
        | false => rfl
        | true =>
          show heatR r = r
          unfold heatR
          split
          · rename_i q1 q2; exact absurd q2 (hX _)
          · rfl
      rw [hheat _ (by intro X q; cases q)] at hp ⊢
      obtain ⟨hnr, hbd⟩ := (hp : n = rows.length ∧ rows.length + items.length ≤ 1000000000)
      have ho : s.o o = some (.arr te.size E rows) := ho
      obtain ⟨a1, a2, _, xs, a3, a4, a5⟩ := h.objs.arr o _ E rows ho
      have hu : u = β.sv o := hx.2 (β.sv o) (by show svOf _ _ o n = _; unfold svOf; simp only [ho, hnr, if_true])
      subst hu
      obtain ⟨v', W', r1, r2, r3, r4⟩ := append_own2 (P := P) W 0 t tx ty E inf z hkk i1 i4 hzs (β.sv o) rows.length xs (by rw [i2]; exact a3) v items.length news (by rw [i2]; exact n1) (by unfold maxLen; omega)
        (by rw [i3]; have : (rows.length + items.length) * te.bytes ≤ 1000000000 * 1000 := Nat.mul_le_mul hbd hby; omega) (Nat.zero_le _)
      rw [i2] at r2 r3
      by_cases h0 : items.length = 0
      · obtain ⟨rfl, rfl⟩ := r4 h0
        have hitn : items = [] := List.eq_nil_of_length_eq_zero h0
        subst hitn
        refine ⟨_, _, β, r1, ?_⟩
        have hput := h.put (some i) hd (x := .own o (rows ++ []).length) (v := β.sv o) (by
          intro q hq; simp only [V.refs, List.mem_singleton] at hq; subst hq; exact ⟨_, _, _, ho, by simp⟩) ⟨(by
            obtain ⟨ad, cap, hv, _⟩ := h.objs.shape ho
            exact ⟨ad, cap, by simpa using hv⟩), fun w hw => by
            have hw : svOf _ _ o _ = some w := hw
            unfold svOf at hw
            simp only [ho, List.append_nil, if_true, Option.some.injEq] at hw; exact hw⟩
        have he : s.app (some i) ⟨n = rows.length ∧ rows.length + ([] : List (List V)).length ≤ 1000000000, .own o (rows ++ []).length, .set o (.arr te.size E (rows ++ []))⟩ = s.put (some i) (.own o (rows ++ []).length) := by
          unfold St.app St.put
          simp only [List.append_nil]
          congr 1
          funext j
          by_cases e : j = o
          · subst e; rw [up_same, ho]
          · rw [up_other _ _ e]
        rw [he]; exact hput
      · have hg := h.grow (items := items) ho (by omega) n3 n4 r3 (xs := xs ++ news) (by simpa using r2) (fun w hw => by rcases List.mem_append.1 hw with hw | hw; exact a4 w hw; exact n1.one w hw)
          (by rw [List.flatten_append]; exact a5.append n2)
        refine ⟨_, _, ⟨β.pb, up β.sv o v'⟩, r1, ?_⟩
        rw [app_set]
        refine hg.put (some i) hd (x := .own o (rows ++ items).length) (by
          intro q hq; simp only [V.refs, List.mem_singleton] at hq; subst hq; exact ⟨_, _, _, up_same _ _ _, Nat.le_refl _⟩) ⟨(by
            obtain ⟨ad, cap, hv, _⟩ := hg.objs.shape (o := o) (up_same _ _ _)
            simp only [up_same] at hv
            exact ⟨ad, cap, hv⟩), fun w hw => by
            have hw : svOf _ _ o _ = some w := hw
            unfold svOf at hw
            simp only [up_same, if_true, Option.some.injEq] at hw; exact hw⟩
    · injection hr with hr; subst hr
      have hu : u = .slice none 0 0 := hx
      subst hu
      have hbd : items.length ≤ 1000000000 := heat_pre hp
      have hni : s.o i = none := hn i _ rfl rfl
      obtain ⟨v', W', r1, r2, r3, r4⟩ := append_own2 (P := P) W W.heap.size t tx ty e inf z hkk i1 i4 hzs (.slice none 0 0) 0 [] (by rw [i2]; exact World.ownsRow_nil _ _ _ _) v items.length news (by rw [i2]; exact n1) (by unfold maxLen; omega)
        (by rw [i3]; have : (0 + items.length) * te.bytes ≤ 1000000000 * 1000 := Nat.mul_le_mul (by omega) hby; omega) (Nat.le_refl _)
      rw [i2] at r2
      simp only [Nat.zero_add, List.nil_append] at r2
      have hlast : ∀ b, v'.ownBlock = some b → b = W.heap.size := fun b hb => by
        rcases r3.where' with q | q
        · rw [q] at hb; cases hb
        · rw [q] at hb; injection hb with hb; exact hb.symm
      have hW : Chg [] W W' := ⟨r3.os, r3.tape, r3.output, r3.size, fun j hj _ => r3.block j hj (by simp [Value.ownBlock])⟩
      exact does_new h (hd i rfl) hni te.size e rfl n3 n4 n1.one n2 hW r2 hlast r1 hot hp

end
end Go.Proofs.YtedbbinlcdgkoaaGreatDoor

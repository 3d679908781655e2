import Derived.Test.YtedbbinlcdgkoaaGreatDoorVA
/- The value machine: its states, and when a frame and a world are as a state says. No program in sight. -/
namespace Go.Proofs.YtedbbinlcdgkoaaGreatDoor
open Go.RowKit
set_option linter.unusedVariables false
set_option linter.unusedSimpArgs false

inductive Ob where
  | box (T : TypeId) (c : List V)
  | arr (k : Nat) (E : TypeId) (rows : List (List V))
  /-- a map: its entries, in the order in which they came -/
  | map (es : List (List UInt8 × V))
def Ob.place : Ob → Bool
  | .arr _ _ _ => false
  | _ => true

structure St where
  t : Nat → V
  o : Nat → Option Ob

def up {α : Type} (f : Nat → α) (i : Nat) (x : α) : Nat → α := fun j => if j = i then x else f j
theorem up_same {α : Type} (f : Nat → α) (i : Nat) (x : α) : up f i x i = x := if_pos rfl
theorem up_other {α : Type} (f : Nat → α) {i j : Nat} (x : α) (h : j ≠ i) : up f i x j = f j := if_neg h
theorem up_comm {α : Type} (f : Nat → α) {i j : Nat} (x y : α) (h : i ≠ j) : up (up f i x) j y = up (up f j y) i x := by
  funext k; unfold up; by_cases h1 : k = i <;> by_cases h2 : k = j <;> simp_all

def lko (os : List (Nat × Ob)) (i : Nat) : Option Ob := match os with
  | [] => none
  | (j, x) :: r => if i = j then some x else lko r i
def upL (f : Nat → Option Ob) : List (Nat × Ob) → Nat → Option Ob
  | [] => f
  | (o, x) :: l => up (upL f l) o (some x)
theorem upL_eq (f : Nat → Option Ob) : ∀ (l : List (Nat × Ob)) (o : Nat), upL f l o = match lko l o with | some x => some x | none => f o
  | [], o => rfl
  | (j, x) :: l, o => by
    unfold upL lko
    by_cases e : o = j
    · subst e; rw [up_same, if_pos rfl]
    · rw [up_other _ _ e, if_neg e]; exact upL_eq f l o
def St.put (s : St) (d : Option Nat) (x : V) : St := match d with | some d => { s with t := up s.t d x } | none => s

structure Bet where
  pb : Nat → Nat
  sv : Nat → Value
structure Env where
  w0 : World
  L : List Nat
  M0 : Nat → Nat → Prop
  n : Nat
  o0 : Nat → Option Ob
  β0 : Bet
  Z : Nat → Nat → Prop
  /-- the marks that loops over functions have left lie from here on -/
  B : Nat

def V.known : V → Bool
  | .any => false
  | _ => true
def solidB (rows : List (List V)) : Bool := rows.all fun r => r.all V.known
def prvB (o : Nat) (rows : List (List V)) : Bool := !wrt o && (!prv o || solidB rows)
def room (o k : Nat) (rows : List (List V)) (p : Nat) : Prop := rows.length * k ≤ p ∨ (prv o = true ∧ rows.flatten[p]? = some .any) ∨ wrt o = true
theorem room_congr {a o k : Nat} {rows : List (List V)} {p : Nat} (h : prv a = prv o ∧ wrt a = wrt o) : room a k rows p ↔ room o k rows p := by unfold room; rw [h.1, h.2]
theorem known_ne {x : V} (h : x.known = true) : x ≠ .any := fun e => by rw [e] at h; cases h
theorem solid_ne {o : Nat} {rows : List (List V)} (h : prvB o rows = true) (ho : prv o = true) (p : Nat) : rows.flatten[p]? ≠ some .any := fun e => by
  unfold prvB at h
  rw [ho, Bool.and_eq_true] at h
  have h : solidB rows = true := h.2
  unfold solidB at h
  rw [List.all_eq_true] at h
  obtain ⟨r, hr, hx⟩ := List.mem_flatten.1 (List.mem_of_getElem? e)
  exact known_ne (List.all_eq_true.1 (h r hr) _ hx) rfl
theorem wrt_no {o : Nat} {rows : List (List V)} (h : prvB o rows = true) : wrt o = false := by
  unfold prvB at h
  rw [Bool.and_eq_true, Bool.not_eq_true'] at h
  exact h.1
theorem prvB_no {o : Nat} {rows : List (List V)} (h : prv o = false) (hw : wrt o = false) : prvB o rows = true := by unfold prvB; rw [h, hw]; rfl
def Mut (F : Env) (β : Bet) (os : Nat → Option Ob) (b p : Nat) : Prop :=
  F.M0 b p ∨ (∃ o T c, os o = some (.box T c) ∧ β.pb o = b) ∨ (∃ o k E rows, os o = some (.arr k E rows) ∧ (β.sv o).ownBlock = some b ∧ room o k rows p)
def svOf (β : Bet) (os : Nat → Option Ob) (o n : Nat) : Option Value :=
  match os o with
  | some (.arr _ _ rows) => if rows.length = n then some (β.sv o) else none
  | _ => none
def sit (F : Env) (β : Bet) (os : Nat → Option Ob) (W : World) : Sit := ⟨Mut F β os, W, β.pb, svOf β os⟩
def blk (β : Bet) (os : Nat → Option Ob) (o : Nat) : Option Nat :=
  match os o with
  | some (.box _ _) => some (β.pb o)
  | some (.arr _ _ _) => (β.sv o).ownBlock
  | some (.map _) => some (β.pb o)
  | none => none
def RefOk (os : Nat → Option Ob) : Nat × Option Nat → Prop
  | (o, none) => ∃ x, os o = some x ∧ x.place = true
  | (o, some n) => ∃ k E rows, os o = some (.arr k E rows) ∧ n ≤ rows.length
structure Closed (s : St) : Prop where
  t : ∀ i, ∀ r ∈ (s.t i).refs, RefOk s.o r
  o : ∀ o T c, s.o o = some (.box T c) → ∀ r ∈ V.refsL c, RefOk s.o r

def Kin (β β' : Bet) (o : Nat) : Option Ob → Option Ob → Prop
  | some (.box T _), some (.box T' _) => T' = T ∧ β'.pb o = β.pb o
  | some (.arr k E r), some (.arr k' E' r') => k' = k ∧ E' = E ∧ r.length ≤ r'.length ∧ (r'.length = r.length → β'.sv o = β.sv o)
  | some (.map _), some (.map _) => β'.pb o = β.pb o
  | some _, some _ => False
  | _, _ => True
theorem Kin.refl (β : Bet) (o : Nat) : ∀ x, Kin β β o x x
  | none => trivial
  | some (.box _ _) => ⟨rfl, rfl⟩
  | some (.arr _ _ _) => ⟨rfl, rfl, Nat.le_refl _, fun _ => rfl⟩
  | some (.map _) => rfl
theorem Kin.trans {β0 β β' : Bet} {o : Nat} : ∀ {x y z : Option Ob}, Kin β0 β o x y → Kin β β' o y z → y ≠ none → Kin β0 β' o x z
  | none, _, _, _, _, _ => by unfold Kin; trivial
  | some _, none, _, _, _, hn => absurd rfl hn
  | some x, some _, none, _, _, _ => by cases x <;> (unfold Kin; trivial)
  | some x, some y, some z, h, k, _ => by
    cases x <;> cases y <;> first | exact h.elim | skip
    · cases z <;> first | exact k.elim | exact ⟨k.1.trans h.1, k.2.trans h.2⟩
    · cases z <;> first | exact k.elim | skip
      refine ⟨k.1.trans h.1, k.2.1.trans h.2.1, Nat.le_trans h.2.2.1 k.2.2.1, fun e => ?_⟩
      have h1 := h.2.2.1; have k1 := k.2.2.1
      rw [k.2.2.2 (by omega), h.2.2.2 (by omega)]
    · cases z <;> first | exact k.elim | exact Eq.trans (show _ = _ from k) (show _ = _ from h)

structure Base (F : Env) (β : Bet) (os : Nat → Option Ob) (W : World) : Prop where
  chg : Chg F.L F.w0 W
  m0 : ∀ b p, F.M0 b p → b < F.w0.heap.size
  dis : ∀ o b p, blk β os o = some b → ¬ F.M0 b p
  nam : ∀ o, F.o0 o ≠ none → 1000000 ≤ o
  nn : F.n ≤ 1000000
  kin : ∀ o, Kin F.β0 β o (F.o0 o) (os o)
  frz : ∀ b p c, F.Z b p → F.w0.cell? ⟨b, p, none⟩ = some c → ¬ Mut F β os b p ∧ W.cell? ⟨b, p, none⟩ = some c
  gc : (∀ b p, gZ b p → F.Z b p) ∧ GcW F.w0
  tab : (∀ o, blk β os o ≠ some tB) ∧ tB ∉ F.L
theorem Base.gcNow {F : Env} {β : Bet} {os : Nat → Option Ob} {W : World} (h : Base F β os W) : (∀ b p, gZ b p → ¬ Mut F β os b p) ∧ GcW W := by
  obtain ⟨hz, hm⟩ := h.gc
  exact ⟨fun b p q => by obtain ⟨c, hc⟩ := gc_cell hm q; exact (h.frz _ _ _ (hz _ _ q) hc).1, gc_keep hm (fun b p c q hc => (h.frz _ _ _ (hz _ _ q) hc).2) (h.chg.block _ (gc_lt hm) h.tab.2)⟩
theorem Base.step {F : Env} {β β' : Bet} {os os' : Nat → Option Ob} {W W' : World} (h : Base F β os W) (hchg : Chg F.L F.w0 W')
    (hdis : ∀ o b, blk β' os' o = some b → (∃ o', blk β os o' = some b) ∨ W.heap.size ≤ b)
    (hkin : ∀ o, os' o = none ∨ (os o = none ∧ o < 1000000) ∨ (os o ≠ none ∧ Kin β β' o (os o) (os' o)))
    (hC : ∀ b p c, ¬ Mut F β os b p → W.cell? ⟨b, p, none⟩ = some c → ¬ Mut F β' os' b p ∧ W'.cell? ⟨b, p, none⟩ = some c) : Base F β' os' W' := by
  refine ⟨hchg, h.m0, fun o b p hb => ?_, h.nam, h.nn, fun o => ?_, fun b p c hz hc => ?_, h.gc, fun o q => ?_, h.tab.2⟩
  · rcases hdis o b hb with ⟨o', hq⟩ | hq
    · exact h.dis o' b p hq
    · intro hm; have := h.m0 b p hm; have := h.chg.size; omega
  · rcases hkin o with q | ⟨q, ql⟩ | ⟨q, k⟩
    · rw [q]; cases F.o0 o with
      | none => unfold Kin; trivial
      | some x => cases x <;> (unfold Kin; trivial)
    · have : F.o0 o = none := by
        cases hx : F.o0 o with
        | none => rfl
        | some x => have := h.nam o (by rw [hx]; simp); omega
      rw [this]; unfold Kin; trivial
    · exact (h.kin o).trans k q
  · obtain ⟨k1, k2⟩ := h.frz b p c hz hc
    exact hC b p c k1 k2
  · rcases hdis o _ q with ⟨o', hq⟩ | hq
    · exact h.tab.1 o' hq
    · have := gc_lt h.gc.2; have := h.chg.size; omega

def mapE : Nat → List (List UInt8) → List Value → List MapEntry
  | n, k :: ks, v :: vs => { key := .string ⟨k.toArray⟩, val := v, born := n } :: mapE (n + 1) ks vs
  | _, _, _ => []
def MapAt (F : Env) (β : Bet) (os : Nat → Option Ob) (W : World) (o : Nat) (es : List (List UInt8 × V)) : Prop :=
  (β.pb o ∈ F.L ∨ F.w0.heap.size ≤ β.pb o) ∧ V.refsL (es.map (·.2)) = [] ∧ ∃ vs, W.heap[β.pb o]? = some (.map (mapE 0 (es.map (·.1)) vs).toArray es.length) ∧ RepL (sit F β os W) (es.map (·.2)) vs
theorem MapAt.keep {F : Env} {β β' : Bet} {os os' : Nat → Option Ob} {W W' : World} {o : Nat} {es : List (List UInt8 × V)} (h : MapAt F β os W o es) (hpb : β'.pb o = β.pb o)
    (hh : ∀ x, W.heap[β.pb o]? = some x → W'.heap[β.pb o]? = some x)
    (hC : ∀ b p c, ¬ Mut F β os b p → W.cell? ⟨b, p, none⟩ = some c → ¬ Mut F β' os' b p ∧ W'.cell? ⟨b, p, none⟩ = some c) : MapAt F β' os' W' o es := by
  obtain ⟨h1, h2, vs, h3, h4⟩ := h
  exact ⟨by rw [hpb]; exact h1, h2, vs, by rw [hpb]; exact hh _ h3, RepL.mono (S' := sit F β' os' W') hC _ vs (by rw [h2]; simp) h4⟩
structure Objs (F : Env) (β : Bet) (os : Nat → Option Ob) (W : World) : Prop where
  base : Base F β os W
  box : ∀ o T c, os o = some (.box T c) → (β.pb o ∈ F.L ∨ F.w0.heap.size ≤ β.pb o) ∧
    ∃ cs rest : List Value, W.heap[β.pb o]? = some (.cells (cs ++ rest).toArray T (0, 0)) ∧ (∀ c ∈ cs, c.oneCell' = true) ∧ RepL (sit F β os W) c cs
  arr : ∀ o k E rows, os o = some (.arr k E rows) → (∀ r ∈ rows, r.length = k) ∧ cleanR rows ∧
    (∀ b, (β.sv o).ownBlock = some b → b ∈ F.L ∨ F.w0.heap.size ≤ b) ∧
    ∃ xs : List Value, W.ownsRow 0 E k (β.sv o) rows.length xs ∧ (∀ c ∈ xs, c.oneCell' = true) ∧ RepL (sit F β os W) rows.flatten xs
  inj : ∀ o o' b, blk β os o = some b → blk β os o' = some b → o = o'
  map : ∀ o es, os o = some (.map es) → MapAt F β os W o es

theorem Objs.chg {F : Env} {β : Bet} {os : Nat → Option Ob} {W : World} (h : Objs F β os W) : Chg F.L F.w0 W := h.base.chg
theorem Objs.m0 {F : Env} {β : Bet} {os : Nat → Option Ob} {W : World} (h : Objs F β os W) : ∀ b p, F.M0 b p → b < F.w0.heap.size := h.base.m0

def Marks (B : Nat) (ds : List Deferred) (W : World) : Prop := B ≤ W.heap.size ∧ ∃ Ds : List Nat, ds = Ds.map (fun D => { target := .collected D, args := #[] }) ∧ Ds.Nodup ∧ ∀ D ∈ Ds, B ≤ D ∧ W.heap[D]? = some (.deferred (some []))
theorem Marks.none {B : Nat} {W : World} (h : B ≤ W.heap.size) : Marks B [] W := ⟨h, [], rfl, List.nodup_nil, fun D h => by cases h⟩
theorem Marks.chg {B : Nat} {ds : List Deferred} {W W' : World} {L : List Nat} (h : Marks B ds W) (hc : Chg L W W') (hL : ∀ b ∈ L, ∀ q, W.heap[b]? ≠ some (.deferred q)) : Marks B ds W' := by
  obtain ⟨h0, Ds, h1, h2, h3⟩ := h
  exact ⟨Nat.le_trans h0 hc.size, Ds, h1, h2, fun D hD => ⟨(h3 D hD).1, hc.heap (h3 D hD).2 (fun q => hL D q _ (h3 D hD).2)⟩⟩
structure Sim (F : Env) (β : Bet) (s : St) (a : Act) (W : World) : Prop where
  objs : Objs F β s.o W
  closed : Closed s
  frame : ∀ i, Rep (sit F β s.o W) (s.t i) (a.tmps.getD i undef)
  defers : Marks F.B a.defers W
  size : a.tmps.size = F.n

theorem Objs.lt {F : Env} {β : Bet} {os : Nat → Option Ob} {W : World} (h : Objs F β os W) {o b : Nat} (hb : blk β os o = some b) : b < W.heap.size := by
  unfold blk at hb
  split at hb
  · rename_i T c ho
    injection hb with hb; subst hb
    obtain ⟨_, cs, _, h1, _⟩ := h.box o T c ho
    exact lt_of_block h1
  · rename_i k E rows ho
    obtain ⟨_, _, _, xs, h1, _⟩ := h.arr o k E rows ho
    exact (h1.lt b hb).2
  · rename_i es ho
    injection hb with hb; subst hb
    obtain ⟨_, _, _, h1, _⟩ := h.map o es ho
    exact lt_of_block h1
  · cases hb
theorem Objs.not_def {F : Env} {β : Bet} {os : Nat → Option Ob} {W : World} (h : Objs F β os W) {o b : Nat} (hb : blk β os o = some b) (q : Option (List Deferred)) : W.heap[b]? ≠ some (.deferred q) := by
  intro hd
  unfold blk at hb
  split at hb
  · rename_i T c ho
    injection hb with hb; subst hb
    obtain ⟨_, cs, _, h1, _⟩ := h.box o T c ho
    rw [h1] at hd; cases hd
  · rename_i k E rows ho
    obtain ⟨_, _, _, xs, h1, _⟩ := h.arr o k E rows ho
    rcases h1.2 with ⟨e, _⟩ | ⟨g, cap, cur, e, _, hg, _⟩
    · rw [e] at hb; cases hb
    · rw [e] at hb; injection hb with hb; subst hb
      rw [hg] at hd; cases hd
  · rename_i es ho
    injection hb with hb; subst hb
    obtain ⟨_, _, _, h1, _⟩ := h.map o es ho
    rw [h1] at hd; cases hd
  · cases hb
theorem Objs.mut_lt {F : Env} {β : Bet} {os : Nat → Option Ob} {W : World} (h : Objs F β os W) {b p : Nat} (hb : Mut F β os b p) : b < W.heap.size := by
  rcases hb with hb | ⟨o, T, c, h1, h2⟩ | ⟨o, k, E, rows, h1, h2, _⟩
  · exact Nat.lt_of_lt_of_le (h.m0 b p hb) h.chg.size
  · exact h.lt (o := o) (by simp only [blk, h1, h2])
  · exact h.lt (o := o) (by simp only [blk, h1, h2])

theorem move_all {F : Env} {β β' : Bet} {os os' : Nat → Option Ob} {W W' : World}
    (hC : ∀ b p c, ¬ Mut F β os b p → W.cell? ⟨b, p, none⟩ = some c → ¬ Mut F β' os' b p ∧ W'.cell? ⟨b, p, none⟩ = some c)
    (hR : ∀ r, RefOk os r → SameRef (sit F β os W) (sit F β' os' W') r) {x : V} {v : Value} (hx : ∀ r ∈ x.refs, RefOk os r) (h : Rep (sit F β os W) x v) : Rep (sit F β' os' W') x v :=
  h.mono (S' := sit F β' os' W') hC x v (fun r hr => hR r (hx r hr))
theorem move_allL {F : Env} {β β' : Bet} {os os' : Nat → Option Ob} {W W' : World}
    (hC : ∀ b p c, ¬ Mut F β os b p → W.cell? ⟨b, p, none⟩ = some c → ¬ Mut F β' os' b p ∧ W'.cell? ⟨b, p, none⟩ = some c)
    (hR : ∀ r, RefOk os r → SameRef (sit F β os W) (sit F β' os' W') r) {x : List V} {v : List Value} (hx : ∀ r ∈ V.refsL x, RefOk os r) (h : RepL (sit F β os W) x v) : RepL (sit F β' os' W') x v :=
  RepL.mono (S' := sit F β' os' W') hC x v (fun r hr => hR r (hx r hr)) h
theorem clean_flat {rows : List (List V)} (h : cleanR rows) : V.refsL rows.flatten = [] := by
  induction rows with
  | nil => rfl
  | cons r rs ih => rw [List.flatten_cons, refsL_append, h r List.mem_cons_self, ih (fun x hx => h x (List.mem_cons_of_mem _ hx))]; rfl

theorem Sim.world {F : Env} {β : Bet} {s : St} {a : Act} {W W' : World} (h : Sim F β s a W) (hc : Chg [] W W') : Sim F β s a W' := by
  have hC : ∀ b p c, ¬ Mut F β s.o b p → W.cell? ⟨b, p, none⟩ = some c → ¬ Mut F β s.o b p ∧ W'.cell? ⟨b, p, none⟩ = some c := fun b p c h1 h2 => ⟨h1, hc.cell h2 (by simp)⟩
  have hR : ∀ r, RefOk s.o r → SameRef (sit F β s.o W) (sit F β s.o W') r := by
    rintro ⟨o, _ | n⟩ _
    · rfl
    · exact fun u hu => hu
  have hkin : ∀ o, s.o o = none ∨ (s.o o = none ∧ o < 1000000) ∨ (s.o o ≠ none ∧ Kin β β o (s.o o) (s.o o)) := fun o => by
    cases hx : s.o o with
    | none => exact .inl rfl
    | some x => exact .inr (.inr ⟨by simp, Kin.refl _ _ _⟩)
  refine ⟨⟨h.objs.base.step (h.objs.chg.trans (hc.weaken (by simp))) (fun o b hb => .inl ⟨o, hb⟩) hkin hC, fun o T c ho => ?_, fun o k E rows ho => ?_, h.objs.inj, fun o es ho => (h.objs.map o es ho).keep rfl (fun x hx => hc.heap hx (by simp)) hC⟩, h.closed, fun i => move_all hC hR (h.closed.t i) (h.frame i), h.defers.chg hc (by simp), h.size⟩
  · obtain ⟨h1, cs, rs, h2, h3, h4⟩ := h.objs.box o T c ho
    exact ⟨h1, cs, rs, hc.heap h2 (by simp), h3, move_allL hC hR (h.closed.o o T c ho) h4⟩
  · obtain ⟨h1, h2, h0, xs, h3, h4, h5⟩ := h.objs.arr o k E rows ho
    exact ⟨h1, h2, h0, xs, ownK_keep h3 hc (by simp), h4, move_allL hC hR (by rw [clean_flat h2]; simp) h5⟩

theorem Sim.put {F : Env} {β : Bet} {s : St} {a : Act} {W : World} (h : Sim F β s a W) (d : Option Nat) (hd : ∀ i, d = some i → i < F.n) {x : V} {v : Value} (hx : ∀ r ∈ x.refs, RefOk s.o r) (hv : Rep (sit F β s.o W) x v) :
    Sim F β (s.put d x) (a.put d v) W := by
  cases d with
  | none => exact h
  | some d =>
    have hd := hd d rfl
    refine ⟨h.objs, ⟨fun i => ?_, h.closed.o⟩, fun i => ?_, h.defers, by simpa [Act.put] using h.size⟩
    · by_cases e : i = d
      · subst e; simpa [St.put, up_same] using hx
      · simpa [St.put, up_other _ _ e] using h.closed.t i
    · by_cases e : i = d
      · subst e
        have : (a.put (some i) v).tmps.getD i undef = v := by simp [Act.put, Array.getElem?_setIfInBounds, h.size, hd]
        rw [this]; simpa [St.put, up_same] using hv
      · have : (a.put (some d) v).tmps.getD i undef = a.tmps.getD i undef := by simp [Act.put, Array.getElem?_setIfInBounds, Ne.symm e]
        rw [this]; simpa [St.put, up_other _ _ e] using h.frame i

structure Less (s s' : St) : Prop where
  t : ∀ i, s'.t i = .any ∨ s'.t i = s.t i
  o : ∀ o, s'.o o = none ∨ s'.o o = s.o o
theorem less_mut {F : Env} {β : Bet} {os os' : Nat → Option Ob} (hl : ∀ o, os' o = none ∨ os' o = os o) : ∀ b p, Mut F β os' b p → Mut F β os b p := by
  have ob : ∀ {o x}, os' o = some x → os o = some x := fun {o x} ho => by
    rcases hl o with h1 | h1
    · rw [h1] at ho; cases ho
    · rw [h1] at ho; exact ho
  rintro b p (h1 | ⟨o, T, c, h1, h2⟩ | ⟨o, k, E, rows, h1, h2, h3⟩)
  · exact .inl h1
  · exact .inr (.inl ⟨o, T, c, ob h1, h2⟩)
  · exact .inr (.inr ⟨o, k, E, rows, ob h1, h2, h3⟩)
theorem less_same {F : Env} {β : Bet} {os os' : Nat → Option Ob} {W : World} (hl : ∀ o, os' o = none ∨ os' o = os o) : ∀ r, SameRef (sit F β os W) (sit F β os' W) r := by
  rintro ⟨o, _ | n⟩
  · rfl
  · intro u hu
    show svOf β os o n = some u
    have hu : svOf β os' o n = some u := hu
    rcases hl o with h1 | h1
    · unfold svOf at hu; rw [h1] at hu; cases hu
    · unfold svOf at hu ⊢; rw [h1] at hu; exact hu
theorem Objs.less {F : Env} {β : Bet} {os os' : Nat → Option Ob} {W : World} (h : Objs F β os W) (hl : ∀ o, os' o = none ∨ os' o = os o) : Objs F β os' W := by
  have ob : ∀ {o x}, os' o = some x → os o = some x := fun {o x} ho => by
    rcases hl o with h1 | h1
    · rw [h1] at ho; cases ho
    · rw [h1] at ho; exact ho
  have hM := less_mut (F := F) (β := β) hl
  have hC : ∀ b p c, ¬ Mut F β os b p → W.cell? ⟨b, p, none⟩ = some c → ¬ Mut F β os' b p ∧ W.cell? ⟨b, p, none⟩ = some c := fun b p c h1 h2 => ⟨fun g => h1 (hM b p g), h2⟩
  have hR := less_same (F := F) (β := β) (W := W) hl
  have hb : ∀ {o b}, blk β os' o = some b → blk β os o = some b := fun {o b} hb => by
    unfold blk at hb ⊢
    split at hb
    · rename_i ho; rw [ob ho]; exact hb
    · rename_i ho; rw [ob ho]; exact hb
    · rename_i ho; rw [ob ho]; exact hb
    · cases hb
  have hkin : ∀ o, os' o = none ∨ (os o = none ∧ o < 1000000) ∨ (os o ≠ none ∧ Kin β β o (os o) (os' o)) := fun o => by
    rcases hl o with h1 | h1
    · exact .inl h1
    · rw [h1]
      cases hx : os o with
      | none => exact .inl rfl
      | some x => exact .inr (.inr ⟨by simp, Kin.refl _ _ _⟩)
  refine ⟨h.base.step h.chg (fun o b q => .inl ⟨o, hb q⟩) hkin hC, fun o T c ho => ?_, fun o k E rows ho => ?_, fun o o' b h1 h2 => h.inj o o' b (hb h1) (hb h2), fun o es ho => (h.map o es (ob ho)).keep rfl (fun x hx => hx) hC⟩
  · obtain ⟨h1, cs, rs, h2, h3, h4⟩ := h.box o T c (ob ho)
    exact ⟨h1, cs, rs, h2, h3, RepL.mono (S' := sit F β os' W) hC c cs (fun r _ => hR r) h4⟩
  · obtain ⟨h1, h2, h0, xs, h3, h4, h5⟩ := h.arr o k E rows (ob ho)
    exact ⟨h1, h2, h0, xs, h3, h4, RepL.mono (S' := sit F β os' W) hC _ xs (fun r _ => hR r) h5⟩
theorem Rep.less {F : Env} {β : Bet} {os os' : Nat → Option Ob} {W : World} (hl : ∀ o, os' o = none ∨ os' o = os o) {x : V} {v : Value} (h : Rep (sit F β os W) x v) : Rep (sit F β os' W) x v :=
  Rep.mono (S := sit F β os W) (S' := sit F β os' W) (fun b p c h1 h2 => ⟨fun g => h1 (less_mut (F := F) (β := β) hl b p g), h2⟩) x v (fun r _ => less_same (F := F) (β := β) (W := W) hl r) h
theorem Sim.less {F : Env} {β : Bet} {s s' : St} {a : Act} {W : World} (h : Sim F β s a W) (hl : Less s s') (hc : Closed s') : Sim F β s' a W := by
  refine ⟨h.objs.less hl.o, hc, fun i => ?_, h.defers, h.size⟩
  rcases hl.t i with e | e
  · rw [e]; trivial
  · rw [e]; exact (h.frame i).less hl.o

theorem refOk_new {os : Nat → Option Ob} {d : Nat} (hd : os d = none) (x : Ob) : ∀ r, RefOk os r → r.1 ≠ d ∧ RefOk (up os d (some x)) r := by
  rintro ⟨o, _ | n⟩ h
  · obtain ⟨y, h, hp⟩ := h
    have : o ≠ d := fun e => by rw [e, hd] at h; cases h
    exact ⟨this, y, by rw [up_other _ _ this]; exact h, hp⟩
  · obtain ⟨k, E, rows, h, h2⟩ := h
    have : o ≠ d := fun e => by rw [e, hd] at h; cases h
    exact ⟨this, k, E, rows, by rw [up_other _ _ this]; exact h, h2⟩

theorem new_common {F : Env} {β : Bet} {s : St} {W W' : World} (h : Objs F β s.o W) (hcl : Closed s) {d : Nat} (hd : s.o d = none) (x : Ob) (hc : Chg [] W W') (pb' : Nat) (sv' : Value)
    (hx : match x with | .box _ _ => W.heap.size ≤ pb' | .map _ => W.heap.size ≤ pb' | .arr _ _ _ => ∀ b, sv'.ownBlock = some b → W.heap.size ≤ b) :
    (∀ b p c, ¬ Mut F β s.o b p → W.cell? ⟨b, p, none⟩ = some c → ¬ Mut F ⟨up β.pb d pb', up β.sv d sv'⟩ (up s.o d (some x)) b p ∧ W'.cell? ⟨b, p, none⟩ = some c) ∧
    (∀ r, RefOk s.o r → SameRef (sit F β s.o W) (sit F ⟨up β.pb d pb', up β.sv d sv'⟩ (up s.o d (some x)) W') r) ∧
    (∀ o o' b, blk ⟨up β.pb d pb', up β.sv d sv'⟩ (up s.o d (some x)) o = some b → blk ⟨up β.pb d pb', up β.sv d sv'⟩ (up s.o d (some x)) o' = some b → o = o') := by
  refine ⟨fun b p c h1 h2 => ⟨fun g => ?_, hc.cell h2 (by simp)⟩, ?_, ?_⟩
  · have hlt := World.block_lt_of_cell? W _ h2
    simp only at hlt
    rcases g with g | ⟨o, T, c', g1, g2⟩ | ⟨o, k, E, rows, g1, g2, g3⟩
    · exact h1 (.inl g)
    · by_cases e : o = d
      · subst e
        simp only [up_same] at g1 g2
        injection g1 with g1; subst g1
        simp only at hx; omega
      · simp only [up_other _ _ e] at g1 g2
        exact h1 (.inr (.inl ⟨o, T, c', g1, g2⟩))
    · by_cases e : o = d
      · subst e
        simp only [up_same] at g1 g2
        injection g1 with g1; subst g1
        have := hx b g2; omega
      · simp only [up_other _ _ e] at g1 g2
        exact h1 (.inr (.inr ⟨o, k, E, rows, g1, g2, g3⟩))
  · rintro ⟨o, _ | n⟩ hr
    · have hne := (refOk_new hd x _ hr).1
      exact up_other _ _ hne
    · have hne := (refOk_new hd x _ hr).1
      intro u hu
      have hu : svOf _ _ o n = some u := hu
      unfold svOf at hu
      simp only [up_other _ _ hne] at hu
      exact hu
  · have key : ∀ o b, o ≠ d → blk ⟨up β.pb d pb', up β.sv d sv'⟩ (up s.o d (some x)) o = some b → blk β s.o o = some b := fun o b hne hb => by
      unfold blk at hb ⊢
      simp only [up_other _ _ hne] at hb
      exact hb
    have kd : ∀ b, blk ⟨up β.pb d pb', up β.sv d sv'⟩ (up s.o d (some x)) d = some b → W.heap.size ≤ b := fun b hb => by
      unfold blk at hb
      simp only [up_same] at hb
      cases x with
      | box T c => simp only [Option.some.injEq] at hb; simp only at hx; omega
      | map es => simp only [Option.some.injEq] at hb; simp only at hx; omega
      | arr k E rows => exact hx b hb
    intro o o' b h1 h2
    by_cases e : o = d <;> by_cases e' : o' = d
    · rw [e, e']
    · subst e
      have := kd b h1
      have := h.lt (key o' b e' h2); omega
    · subst e'
      have := kd b h2
      have := h.lt (key o b e h1); omega
    · exact h.inj o o' b (key o b e h1) (key o' b e' h2)

theorem new_kin {β : Bet} {os : Nat → Option Ob} {d : Nat} (hd : os d = none) (hn : d < 1000000) (x : Ob) (pb' : Nat) (sv' : Value) : ∀ o, (up os d (some x)) o = none ∨ (os o = none ∧ o < 1000000) ∨ (os o ≠ none ∧ Kin β ⟨up β.pb d pb', up β.sv d sv'⟩ o (os o) ((up os d (some x)) o)) := fun o => by
  by_cases e : o = d
  · subst e; exact .inr (.inl ⟨hd, hn⟩)
  · rw [up_other _ _ e]
    cases hx : os o with
    | none => exact .inl rfl
    | some y =>
      refine .inr (.inr ⟨by simp, ?_⟩)
      cases y with
      | box T c => exact ⟨rfl, up_other _ _ e⟩
      | map es => exact up_other _ _ e
      | arr k E r => exact ⟨rfl, rfl, Nat.le_refl _, fun _ => up_other _ _ e⟩
theorem new_blk {β : Bet} {os : Nat → Option Ob} {d : Nat} {W : World} (x : Ob) (pb' : Nat) (sv' : Value) (hx : match x with | .box _ _ => W.heap.size ≤ pb' | .map _ => W.heap.size ≤ pb' | .arr _ _ _ => ∀ b, sv'.ownBlock = some b → W.heap.size ≤ b) :
    ∀ o b, blk ⟨up β.pb d pb', up β.sv d sv'⟩ (up os d (some x)) o = some b → (∃ o', blk β os o' = some b) ∨ W.heap.size ≤ b := fun o b hb => by
  by_cases e : o = d
  · subst e
    unfold blk at hb
    simp only [up_same] at hb
    cases x with
    | box T c => simp only [Option.some.injEq] at hb; simp only at hx; exact .inr (by omega)
    | map es => simp only [Option.some.injEq] at hb; simp only at hx; exact .inr (by omega)
    | arr k E rows => have := hx b hb; exact .inr (by omega)
  · refine .inl ⟨o, ?_⟩
    unfold blk at hb ⊢
    simp only [up_other _ _ e] at hb
    exact hb

theorem Sim.newBox {F : Env} {β : Bet} {s : St} {a : Act} {W : World} (h : Sim F β s a W) {d : Nat} (hd : s.o d = none) (hn : d < 1000000) (T : TypeId) {c : List V} {cs : List Value} (h1 : ∀ u ∈ cs, u.oneCell' = true)
    (hc : RepL (sit F β s.o W) c cs) (hr : ∀ r ∈ V.refsL c, RefOk s.o r) :
    Sim F ⟨up β.pb d W.heap.size, up β.sv d undef⟩ ⟨s.t, up s.o d (some (.box T c))⟩ a (W.alloc (.cells cs.toArray T (0, 0))) := by
  obtain ⟨hC, hR, hI⟩ := new_common h.objs h.closed hd (.box T c) (Chg.alloc [] W (.cells cs.toArray T (0, 0))) W.heap.size undef (Nat.le_refl _)
  have hR2 : ∀ r, RefOk s.o r → RefOk (up s.o d (some (.box T c))) r := fun r hr => (refOk_new hd _ r hr).2
  refine ⟨⟨h.objs.base.step (h.objs.chg.trans (Chg.alloc _ _ _)) (new_blk (W := W) (.box T c) _ _ (Nat.le_refl _)) (new_kin hd hn _ _ _) hC, fun o T' c' ho => ?_, fun o k E rows ho => ?_, hI, fun o es ho => ?_⟩, ⟨fun i r hr => hR2 r (h.closed.t i r hr), fun o T' c' ho => ?_⟩, fun i => move_all hC hR (h.closed.t i) (h.frame i), h.defers.chg (Chg.alloc [] W _) (by simp), h.size⟩
  · by_cases e : o = d
    · subst e
      simp only [up_same] at ho; injection ho with ho; injection ho with e1 e2; subst e1; subst e2
      exact ⟨.inr (by simp only [up_same]; exact h.objs.chg.size), cs, [], by simp only [up_same, List.append_nil]; exact heap_alloc_new W _, h1, move_allL hC hR hr hc⟩
    · simp only [up_other _ _ e] at ho ⊢
      obtain ⟨g1, us, rs, g2, g3, g4⟩ := h.objs.box o T' c' ho
      exact ⟨g1, us, rs, al_old g2, g3, move_allL hC hR (h.closed.o o T' c' ho) g4⟩
  · by_cases e : o = d
    · subst e; simp only [up_same] at ho; cases ho
    · simp only [up_other _ _ e] at ho ⊢
      obtain ⟨g1, g2, g0, xs, g3, g4, g5⟩ := h.objs.arr o k E rows ho
      exact ⟨g1, g2, g0, xs, g3.alloc _, g4, move_allL hC hR (by rw [clean_flat g2]; simp) g5⟩
  · by_cases e : o = d
    · subst e; simp only [up_same] at ho; cases ho
    · simp only [up_other _ _ e] at ho
      exact (h.objs.map o es ho).keep (by simp only [up_other _ _ e]) (fun x hx => al_old hx) hC
  · intro r hr'
    by_cases e : o = d
    · subst e
      simp only [up_same] at ho; injection ho with ho; injection ho with e1 e2; subst e1; subst e2
      exact hR2 r (hr r hr')
    · simp only [up_other _ _ e] at ho
      exact hR2 r (h.closed.o o T' c' ho r hr')

theorem Sim.newArr {F : Env} {β : Bet} {s : St} {a : Act} {W W' : World} (h : Sim F β s a W) {d : Nat} (hd : s.o d = none) (hn : d < 1000000) (k : Nat) (E : TypeId) {rows : List (List V)} {xs : List Value} {v : Value} (hk : ∀ r ∈ rows, r.length = k) (hcl : cleanR rows)
    (h1 : ∀ u ∈ xs, u.oneCell' = true) (hx : RepL (sit F β s.o W) rows.flatten xs) (hW : Chg [] W W') (hown : W'.ownsRow W.heap.size E k v rows.length xs) (hlast2 : ∀ b, v.ownBlock = some b → W.heap.size ≤ b) :
    Sim F ⟨up β.pb d 0, up β.sv d v⟩ ⟨s.t, up s.o d (some (.arr k E rows))⟩ a W' := by
  obtain ⟨hC, hR, hI⟩ := new_common h.objs h.closed hd (.arr k E rows) hW 0 v hlast2
  have hR2 : ∀ r, RefOk s.o r → RefOk (up s.o d (some (.arr k E rows))) r := fun r hr => (refOk_new hd _ r hr).2
  refine ⟨⟨h.objs.base.step (h.objs.chg.trans (hW.weaken (by simp))) (new_blk (W := W) (.arr k E rows) _ _ hlast2) (new_kin hd hn _ _ _) hC, fun o T' c' ho => ?_, fun o k' E' rows' ho => ?_, hI, fun o es ho => ?_⟩, ⟨fun i r hr => hR2 r (h.closed.t i r hr), fun o T' c' ho => ?_⟩, fun i => move_all hC hR (h.closed.t i) (h.frame i), h.defers.chg hW (by simp), h.size⟩
  · by_cases e : o = d
    · subst e; simp only [up_same] at ho; cases ho
    · simp only [up_other _ _ e] at ho ⊢
      obtain ⟨g1, us, rs, g2, g3, g4⟩ := h.objs.box o T' c' ho
      exact ⟨g1, us, rs, hW.heap g2 (by simp), g3, move_allL hC hR (h.closed.o o T' c' ho) g4⟩
  · by_cases e : o = d
    · subst e
      simp only [up_same] at ho; injection ho with ho; injection ho with e1 e2 e3; subst e1; subst e2; subst e3
      refine ⟨hk, hcl, (fun b hb => ?_), xs, ?_, h1, move_allL hC hR (by rw [clean_flat hcl]; simp) hx⟩
      · simp only [up_same] at hb
        have := hlast2 b hb; have := h.objs.chg.size
        exact .inr (by omega)
      · simp only [up_same]; exact ownK_base hown (Nat.zero_le _)
    · simp only [up_other _ _ e] at ho ⊢
      obtain ⟨g1, g2, g0, ys, g3, g4, g5⟩ := h.objs.arr o k' E' rows' ho
      exact ⟨g1, g2, g0, ys, ownK_keep1 g3 hW, g4, move_allL hC hR (by rw [clean_flat g2]; simp) g5⟩
  · by_cases e : o = d
    · subst e; simp only [up_same] at ho; cases ho
    · simp only [up_other _ _ e] at ho
      exact (h.objs.map o es ho).keep (by simp only [up_other _ _ e]) (fun x hx => hW.heap hx (by simp)) hC
  · intro r hr'
    by_cases e : o = d
    · subst e; simp only [up_same] at ho; cases ho
    · simp only [up_other _ _ e] at ho
      exact hR2 r (h.closed.o o T' c' ho r hr')

end Go.Proofs.YtedbbinlcdgkoaaGreatDoor

import Derived.Deep.Slices
import Derived.Deep.Fields
import Derived.ChangeSame
import Derived.SizedLaws
import Derived.Handed
import Derived.HandedShaped
import Derived.Shelf.Vars
import Derived.ProofKit
import Derived.Test.YtedbbinlcdgkoaaGreatDoorArg
import Derived.Test.YtedbbinlcdgkoaaGreatDoorZB
import Derived.Lib.LaidTab
import Derived.Test.YtedbbinlcdgkoaaGreatDoorRows
/- Arguments that are texts and slices of texts, as the value machine takes them; the library's variable at the start. -/
namespace Go.Proofs.YtedbbinlcdgkoaaGreatDoor
open Go.RowKit
set_option linter.unusedVariables false
theorem AtR_of {S : Sit} {b k : Nat} : ∀ {rows : List (List V)} {p : Nat}, (∀ r ∈ rows, r.length = k) → (∀ (i : Nat) (h : i < rows.length), AtL S rows[i] b (p + i * k)) → AtR S rows b p
  | [], _, _, _ => trivial
  | r :: rows, p, hk, h => ⟨by have := h 0 (by simp); simpa using this, by
      have hr : r.length = k := hk r List.mem_cons_self
      refine AtR_of (fun q hq => hk q (List.mem_cons_of_mem _ hq)) (fun i hi => ?_)
      have := h (i + 1) (by simpa using hi)
      rw [show p + r.length + i * k = p + (i + 1) * k by rw [hr, Nat.succ_mul]; omega]
      exact this⟩
theorem w8 {n : Int} (h : (Lit.int .u8 n).wf = true) : 0 ≤ n ∧ n < 256 := by simp [Lit.wf, IntKind.min, IntKind.max, IntKind.signed, IntKind.bits] at h; omega
theorem w64 {n : Int} (h : (Lit.int .i64 n).wf = true) : -9223372036854775808 ≤ n ∧ n ≤ 9223372036854775807 := by simp [Lit.wf, IntKind.min, IntKind.max, IntKind.signed, IntKind.bits] at h; omega
theorem list_of {α : Type} {p : Nat → α → Prop} : ∀ n : Nat, (∀ i, i < n → ∃ x, p i x) → ∃ l : List α, l.length = n ∧ ∀ (i : Nat) (h : i < l.length), p i l[i]
  | 0, _ => ⟨[], rfl, fun i h => by simp at h⟩
  | n + 1, h => by
    obtain ⟨l, hl, hp⟩ := list_of n (fun i hi => h i (by omega))
    obtain ⟨x, hx⟩ := h n (by omega)
    refine ⟨l ++ [x], by simp [hl], fun i hi => ?_⟩
    have hi' : i < n + 1 := by simpa [hl] using hi
    by_cases e : i < l.length
    · rw [List.getElem_append_left e]; exact hp i e
    · have : i = n := by omega
      subst this
      simp only [List.getElem_append_right (Nat.le_of_not_lt e), hl, Nat.sub_self, List.getElem_cons_zero]
      exact hx
section
open Go.ChangeShapes Go.WideShapes Go.Deep
variable {H : Type} {enc : TypeId × Value → H} {P : Program} {W : World} {base : Nat} {spare : Nat → Bool} {held : Bool}
theorem trod_cells {t : TypeId} {fs : Array Field} {fuel : Nat} {cs : List Value} {x : DataW H × List MemPlace} (ht : P.underlying t = some (.struct fs)) (hone : oneCellFields P fs = true) (hC : P.cellsOf t = fs.size)
    (h : DataW.trod enc P W base spare held fuel t cs = some x) : cs.length = fs.size ∧ ∃ n, ∀ (j : Nat) (f : Field), fs[j]? = some f → ∃ v y, cs[j]? = some v ∧ DataW.trod enc P W base spare held n f.type [v] = some y := by
  obtain ⟨ys, n, _, _, hlen, hyl, hf⟩ := DataW.trod_struct ht h
  rw [hC] at hlen
  refine ⟨hlen, n, fun j f hj => ?_⟩
  obtain ⟨ho, hk⟩ := hone_of hone j f hj
  have hjl : j < cs.length := by rw [hlen]; exact (Array.getElem?_eq_some_iff.1 hj).1
  have hjy : j < ys.length := by rw [hyl]; exact (Array.getElem?_eq_some_iff.1 hj).1
  have h1 := hf j f hj
  rw [ho, hk, List.drop_eq_getElem_cons hjl, List.getElem?_eq_getElem hjy] at h1
  exact ⟨cs[j], ys[j], List.getElem?_eq_getElem hjl, h1⟩
theorem slice_arg {α : Type} (f : α → List V) {k : Nat} {t e : TypeId} (hk0 : 0 < k) (ht : P.underlying t = some (.slice e)) (hC : P.cellsOf e = k) (hlen : ∀ x, (f x).length = k) (hcl : ∀ x, V.refsL (f x) = [])
    (rd : ∀ fuel cs y, DataW.trod enc P W base spare held fuel e cs = some y → ∃ x, RepL (S0 (fun _ _ => False) W) (f x) cs ∧ ∀ u ∈ cs, u.oneCell' = true) {fuel : Nat} {cs : List Value} {y : DataW H × List MemPlace} (h : DataW.trod enc P W base spare held fuel t cs = some y) :
    ∃ (v : Value) (l : List α), cs = [v] ∧ v.oneCell' = true ∧ l.length ≤ 9223372036854775807 ∧ Rep (S0 (fun _ _ => False) W) (.sl k (l.map f)) v := by
  have hrow : ∀ (l : List α), ∀ r ∈ l.map f, r.length = k := fun l r hr => by obtain ⟨x, _, rfl⟩ := List.mem_map.1 hr; exact hlen x
  rcases open_slice ht h with ⟨hcs, _⟩ | ⟨x, l, c, m, n, D, Pl, hcs, _, hl, hm, hmm, _, hi⟩
  · exact ⟨_, [], hcs, rfl, by simp, LeV.nil k _ _ rfl⟩
  · obtain ⟨L, hL, hp⟩ := list_of (p := fun i z => ∀ j (hj : j < k), ∃ u, W.cell? (x.add (i * k + j)) = some u ∧ u.oneCell' = true ∧ Rep (S0 (fun _ _ => False) W) ((f z)[j]'(by rw [hlen]; exact hj)) u) l (fun i hil => by
      have him : i < m := by rw [hmm]; split <;> omega
      obtain ⟨cs', hc, ht'⟩ := hi i him
      rw [hC] at hc
      obtain ⟨_, _, hat⟩ := World.cells?_some hc
      obtain ⟨z, hz, h1⟩ := rd _ _ _ ht'
      refine ⟨z, fun j hj => ?_⟩
      obtain ⟨u, hu, hru⟩ := RepL.get hz j (by rw [hlen]; exact hj)
      have := hat j hj
      rw [add_add, hu] at this
      exact ⟨u, this, h1 u (List.mem_of_getElem? hu), hru⟩)
    have hml : l ≤ 9223372036854775807 := by unfold maxLen at hm; omega
    have hsp : L ≠ [] → x.spot = none := fun hne => by
      have h0 : 0 < L.length := List.length_pos_iff.2 hne
      obtain ⟨u, hu, _⟩ := hp 0 h0 0 hk0
      have := World.cell?_spot hu
      obtain ⟨b, off, sp⟩ := x
      simpa [Addr.add] using this
    refine ⟨_, L, hcs, rfl, by omega, some x, c, by simp [hL], by simpa [hL] using hl, hm, (fun e => by cases e), hrow L, (fun r hr => by obtain ⟨z, _, rfl⟩ := List.mem_map.1 hr; exact hcl z), fun y hy => ?_⟩
    injection hy with hy; subst hy
    refine ⟨fun hne => hsp (fun e => hne (by rw [e]; rfl)), AtR_of (k := k) (hrow L) (fun i hi => ?_)⟩
    have hi' : i < L.length := by simpa using hi
    rw [List.getElem_map]
    refine AtL.of_get fun j hj => ?_
    have hjk : j < k := by rw [← hlen L[i]]; exact hj
    obtain ⟨u, hc, h1, hru⟩ := hp i hi' j hjk
    have hs := hsp (fun e => by rw [e] at hi'; simp at hi')
    obtain ⟨b, off, sp⟩ := x
    simp only at hs; subst hs
    have hadd : (⟨b, off, none⟩ : Addr).add (i * k + j) = ⟨b, off + i * k + j, none⟩ := by simp [Addr.add, Nat.add_assoc]
    rw [hadd] at hc
    exact ⟨fun q => q, u, hc, h1, hru⟩
theorem u8_rd {fuel : Nat} {cs : List Value} {y : DataW H × List MemPlace} (h : DataW.trod enc Tryz.prog W base spare held fuel 5 cs = some y) : ∃ c : UInt8, RepL (S0 (fun _ _ => False) W) [V.int .u8 (c.toNat : Int)] cs ∧ ∀ u ∈ cs, u.oneCell' = true := by
  obtain ⟨n, rfl, _, g⟩ := DataW.trod_int Tryz.underlying5 h
  obtain ⟨h1, h2⟩ := w8 g
  refine ⟨UInt8.ofNat n.toNat, ⟨_, _, rfl, ?_, rfl⟩, fun u hu => by rw [List.mem_singleton] at hu; subst hu; rfl⟩
  have : ((UInt8.ofNat n.toNat).toNat : Int) = n := by rw [UInt8.toNat_ofNat_of_lt' (by show _ < 256; omega)]; omega
  show Value.int .u8 n = Value.int .u8 _
  rw [this]
theorem bs_cs {fuel : Nat} {cs : List Value} {y : DataW H × List MemPlace} (h : DataW.trod enc Tryz.prog W base spare held fuel 26 cs = some y) : ∃ (v : Value) (l : Bs), cs = [v] ∧ v.oneCell' = true ∧ l.length ≤ 9223372036854775807 ∧ Rep (S0 (fun _ _ => False) W) (.sl 1 (bytesR l)) v :=
  slice_arg (fun c : UInt8 => [V.int .u8 (c.toNat : Int)]) (k := 1) (by decide) Tryz.underlying26 (by kernel_rfl) (fun _ => rfl) (fun _ => rfl) (fun _ _ _ h => u8_rd h) h
theorem uni_rd {fuel : Nat} {cs : List Value} {x : DataW H × List MemPlace} (h : DataW.trod enc Tryz.prog W base spare held fuel 58 cs = some x) : ∃ d : UniT, RepL (S0 (fun _ _ => False) W) (uniC d) cs ∧ ∀ u ∈ cs, u.oneCell' = true := by
  obtain ⟨hl, m, hf⟩ := trod_cells Tryz.underlying58 (by kernel_rfl) (by kernel_rfl) h
  obtain ⟨v0, y0, c0, t0⟩ := hf 0 _ rfl
  obtain ⟨v1, y1, c1, t1⟩ := hf 1 _ rfl
  obtain ⟨v2, y2, c2, t2⟩ := hf 2 _ rfl
  obtain ⟨v3, y3, c3, t3⟩ := hf 3 _ rfl
  obtain ⟨v4, y4, c4, t4⟩ := hf 4 _ rfl
  obtain ⟨n0, e0, _, g0⟩ := DataW.trod_int Tryz.underlying3 t0
  obtain ⟨n1, e1, _, g1⟩ := DataW.trod_int Tryz.underlying3 t1
  obtain ⟨n2, e2, _, g2⟩ := DataW.trod_string Tryz.underlying9 t2
  obtain ⟨n3, e3, _, g3⟩ := DataW.trod_int Tryz.underlying3 t3
  obtain ⟨n4, e4, _, g4⟩ := DataW.trod_int Tryz.underlying3 t4
  cases e0; cases e1; cases e2; cases e3; cases e4
  have hl : cs.length = 5 := hl
  match cs, hl with
  | [_, _, _, _, _], _ =>
    simp only [List.getElem?_cons_zero, List.getElem?_cons_succ, Option.some.injEq] at c0 c1 c2 c3 c4
    subst c0; subst c1; subst c2; subst c3; subst c4
    exact ⟨⟨n0, n1, n2.data.toList, n3, n4⟩, ⟨_, _, rfl, rfl, _, _, rfl, rfl, _, _, rfl, by cases n2; rfl, _, _, rfl, rfl, _, _, rfl, rfl, rfl⟩, fun u hu => by
      simp only [List.mem_cons, List.not_mem_nil, or_false] at hu
      rcases hu with rfl | rfl | rfl | rfl | rfl <;> rfl⟩
theorem par_rd {fuel : Nat} {cs : List Value} {x : DataW H × List MemPlace} (h : DataW.trod enc Tryz.prog W base spare held fuel 65 cs = some x) : ∃ d : ParT, RepL (S0 (fun _ _ => False) W) (parC d) cs ∧ ∀ u ∈ cs, u.oneCell' = true := by
  obtain ⟨hl, m, hf⟩ := trod_cells Tryz.underlying65 (by kernel_rfl) (by kernel_rfl) h
  obtain ⟨v0, y0, c0, t0⟩ := hf 0 _ rfl
  obtain ⟨v1, y1, c1, t1⟩ := hf 1 _ rfl
  obtain ⟨n0, e0, _, g0⟩ := DataW.trod_int Tryz.underlying3 t0
  obtain ⟨n1, e1, _, g1⟩ := DataW.trod_string Tryz.underlying9 t1
  cases e0; cases e1
  have hl : cs.length = 2 := hl
  match cs, hl with
  | [_, _], _ =>
    simp only [List.getElem?_cons_zero, List.getElem?_cons_succ, Option.some.injEq] at c0 c1
    subst c0; subst c1
    exact ⟨⟨n0, n1.data.toList⟩, ⟨_, _, rfl, rfl, _, _, rfl, by cases n1; rfl, rfl⟩, fun u hu => by
      simp only [List.mem_cons, List.not_mem_nil, or_false] at hu
      rcases hu with rfl | rfl <;> rfl⟩
theorem unis_cs {fuel : Nat} {cs : List Value} {y : DataW H × List MemPlace} (h : DataW.trod enc Tryz.prog W base spare held fuel 22 cs = some y) : ∃ (v : Value) (l : List UniT), cs = [v] ∧ v.oneCell' = true ∧ l.length ≤ 9223372036854775807 ∧ Rep (S0 (fun _ _ => False) W) (.sl 5 (l.map uniC)) v :=
  slice_arg uniC (k := 5) (by decide) Tryz.underlying22 (by kernel_rfl) (fun _ => rfl) (fun _ => rfl) (fun _ _ _ h => uni_rd h) h
theorem pars_cs {fuel : Nat} {cs : List Value} {y : DataW H × List MemPlace} (h : DataW.trod enc Tryz.prog W base spare held fuel 23 cs = some y) : ∃ (v : Value) (l : List ParT), cs = [v] ∧ v.oneCell' = true ∧ l.length ≤ 9223372036854775807 ∧ Rep (S0 (fun _ _ => False) W) (.sl 2 (l.map parC)) v :=
  slice_arg parC (k := 2) (by decide) Tryz.underlying23 (by kernel_rfl) (fun _ => rfl) (fun _ => rfl) (fun _ _ _ h => par_rd h) h
set_option maxRecDepth 8000 in
theorem u8s_argM {a : Option Addr} {len cap : Nat} {d : DataW H} {p : List MemPlace}
    (h : DataW.Trod enc Tryz.prog W base spare held 26 (.slice a len cap) d p) : ∃ l : Bs, l.length ≤ 9223372036854775807 ∧ Rep (S0 (fun _ _ => False) W) (.sl 1 (bytesR l)) (.slice a len cap) := by
  obtain ⟨fuel, hf⟩ := h
  obtain ⟨v, l, e, _, h1, h2⟩ := bs_cs hf
  have e : [Value.slice a len cap] = [v] := e
  injection e with e _
  subst e
  exact ⟨l, h1, h2⟩
set_option maxRecDepth 100000 in
theorem seed_arg {r : Reach} {b0 : Nat} {v : Value} {d : DataW H} {p : List MemPlace} (hv : Value.okWide Tryz.prog W r b0 28 v) (h : DataW.Trod enc Tryz.prog W base spare held 28 v d p) :
    ∃ (st : Nat) (ps : List UInt8) (us : List UniT), st < 256 ∧ us.length ≤ 9223372036854775807 ∧ ps.length ≤ 9223372036854775807 ∧ Rep (S0 (fun _ _ => False) W) (.agg (seedC st ps us)) v := by
  obtain ⟨cs, rfl, _⟩ := okWide_struct Tryz.underlying28 hv
  obtain ⟨fuel, h⟩ := h
  have h : DataW.trod enc Tryz.prog W base spare held fuel 28 cs.toList = some _ := h
  obtain ⟨hl, m, hf⟩ := trod_cells Tryz.underlying28 (by kernel_rfl) (by kernel_rfl) h
  obtain ⟨v0, y0, c0, t0⟩ := hf 0 _ rfl
  obtain ⟨v1, y1, c1, t1⟩ := hf 1 _ rfl
  obtain ⟨v2, y2, c2, t2⟩ := hf 2 _ rfl
  obtain ⟨n0, e0, _, g0⟩ := DataW.trod_int Tryz.underlying5 t0
  obtain ⟨u1, l1, e1, o1, k1, r1⟩ := bs_cs t1
  obtain ⟨u2, l2, e2, o2, k2, r2⟩ := unis_cs t2
  cases e0; cases e1; cases e2
  obtain ⟨h1, h2⟩ := w8 g0
  obtain ⟨z, rfl⟩ := Int.eq_ofNat_of_zero_le h1
  have hl : cs.toList.length = 3 := hl
  refine ⟨z, l1, l2, by omega, k2, k1, cs.toList, rfl, ?_, ?_⟩
  · generalize cs.toList = L at hl c0 c1 c2
    match L, hl with
    | [_, _, _], _ =>
      simp only [List.getElem?_cons_zero, List.getElem?_cons_succ, Option.some.injEq] at c0 c1 c2
      subst c0; subst c1; subst c2
      intro u hu
      simp only [List.mem_cons, List.not_mem_nil, or_false] at hu
      rcases hu with rfl | rfl | rfl
      · rfl
      · exact o1
      · exact o2
  · generalize cs.toList = L at hl c0 c1 c2
    match L, hl with
    | [_, _, _], _ =>
      simp only [List.getElem?_cons_zero, List.getElem?_cons_succ, Option.some.injEq] at c0 c1 c2
      subst c0; subst c1; subst c2
      exact ⟨_, _, rfl, rfl, _, _, rfl, r1, _, _, rfl, r2, rfl⟩
set_option maxRecDepth 100000 in
theorem cfg_arg {r : Reach} {b0 : Nat} {v : Value} {d : DataW H} {p : List MemPlace} (hv : Value.okWide Tryz.prog W r b0 25 v) (h : DataW.Trod enc Tryz.prog W base spare held 25 v d p) :
    ∃ c : CfgT, c.us.length ≤ 9223372036854775807 ∧ c.ps.length ≤ 9223372036854775807 ∧ Rep (S0 (fun _ _ => False) W) (.agg (cfgC c)) v := by
  obtain ⟨cs, rfl, _⟩ := okWide_struct Tryz.underlying25 hv
  obtain ⟨fuel, h⟩ := h
  have h : DataW.trod enc Tryz.prog W base spare held fuel 25 cs.toList = some _ := h
  obtain ⟨hl, m, hf⟩ := trod_cells Tryz.underlying25 (by kernel_rfl) (by kernel_rfl) h
  obtain ⟨v0, y0, c0, t0⟩ := hf 0 _ rfl
  obtain ⟨v1, y1, c1, t1⟩ := hf 1 _ rfl
  obtain ⟨v2, y2, c2, t2⟩ := hf 2 _ rfl
  obtain ⟨u1, l1, e1, o1, k1, r1⟩ := unis_cs t0
  obtain ⟨n0, e0, _, g0⟩ := DataW.trod_int Tryz.underlying3 t1
  obtain ⟨u2, l2, e2, o2, k2, r2⟩ := pars_cs t2
  cases e0; cases e1; cases e2
  have hl : cs.toList.length = 3 := hl
  refine ⟨⟨l1, n0, l2⟩, k1, k2, cs.toList, rfl, ?_, ?_⟩
  · generalize cs.toList = L at hl c0 c1 c2
    match L, hl with
    | [_, _, _], _ =>
      simp only [List.getElem?_cons_zero, List.getElem?_cons_succ, Option.some.injEq] at c0 c1 c2
      subst c0; subst c1; subst c2
      intro u hu
      simp only [List.mem_cons, List.not_mem_nil, or_false] at hu
      rcases hu with rfl | rfl | rfl
      · exact o1
      · rfl
      · exact o2
  · generalize cs.toList = L at hl c0 c1 c2
    match L, hl with
    | [_, _, _], _ =>
      simp only [List.getElem?_cons_zero, List.getElem?_cons_succ, Option.some.injEq] at c0 c1 c2
      subst c0; subst c1; subst c2
      exact ⟨_, _, rfl, r1, _, _, rfl, rfl, _, _, rfl, r2, rfl⟩
end
theorem law_in {P : Program} {f : FuncId} {args : List V} {vs : List Value} {w : World} (h : Spec P f args (.bool true)) (hg : GcW w) (hr : RepL (S0 (fun _ _ => False) w) args vs) : Calls P f vs.toArray w fun e w' => e = .returned (.bool true) ∧ Below w.heap.size w w' :=
  (h.run (fun _ _ => False) w vs (fun _ _ h => h.elim) ⟨fun _ _ _ h => h, hg⟩ hr).mono fun e w' ⟨v, he, hc, hv⟩ => ⟨by rw [he]; exact congrArg _ hv, hc.nil_below⟩
section
variable {H : Type} {enc : TypeId × Value → H}
theorem change_and_shaped {a : Assume} {C : Checked} {os : Os} {f : FuncId} {fn : Func} {s : ChangeSpec} {conds : List PathCond} {apart fresh handsOn again : Bool} {X : World → Array Value → Prop}
    (hX : ∀ (w w' : World) (args : Array Value), w.heap = w'.heap → X w args → X w' args)
    (own : ownKnob C.prog.godebug = none) (started : os.Started) (noInit : C.prog.inits.idxOf? f = none) (hfn : C.prog.funcs[f]? = some fn)
    (witness : ∃ (w : World) (tape : Tape) (i : Input), w.os = os ∧ (w.forCall tape i).Shaped C.prog ∧ i.vars = [] ∧ Input.okWide C.prog (w.forCall tape i) .any w.heap.size f i ∧
      ((s.pre enc C.prog fn conds apart (w.forCall tape i).memory i.args ∧ X (w.forCall tape i).memory i.args) ∧ sizedMet enc C.prog fn (OpenSpec.ofChange s) apart (w.forCall tape i).memory i.args) ∧ a.holds C.prog (lone (Frame.enter C.prog f i.args .normal) [] (w.forCall tape i)))
    (contract : ∀ (W : World) (base : Nat) (args : Array Value) (ds gs : List (DataW H)) (before : List MemPlace),
      (∀ (j : Nat) t v, fn.params[j]? = some t → args[j]? = some v → Value.okWide C.prog W .any base t v) →
      DataW.Whole enc C.prog fn.params.toList s.vars apart W args.toList ds gs before → W.ShapedOpen C.prog → X W args →
      Calls C.prog f args W fun e W' => ∃ v, e = .returned v ∧ s.post enc C.prog fn apart fresh handsOn again W args v W') :
    ReturnsInHanded a C os f .any (fun w args => (s.pre enc C.prog fn conds apart w args ∧ X w args) ∧ sizedMet enc C.prog fn (OpenSpec.ofChange s) apart w args) (s.post enc C.prog fn apart fresh handsOn again) := by
  refine returnsInHanded_of_calls own started noInit witness ?_
  intro w tape i _ hsh _ hok hpre _
  obtain ⟨_, _, _, g, hg, _, _, _, _, hval⟩ := hok
  obtain rfl : g = fn := Option.some.inj (hg.symm.trans hfn)
  obtain ⟨⟨⟨ds, gs, before, hw, hc⟩, hx⟩, hz⟩ := hpre
  refine (contract (w.forCall tape i) w.heap.size i.args ds gs before hval (DataW.Whole.of_heap (w' := w.forCall tape i) (by rfl) hw) hsh (hX _ _ _ (by rfl) hx)).mono fun e W' ⟨v, he, hp⟩ => ?_
  subst he
  exact ChangeSpec.post_blind hp
end
end Go.Proofs.YtedbbinlcdgkoaaGreatDoor

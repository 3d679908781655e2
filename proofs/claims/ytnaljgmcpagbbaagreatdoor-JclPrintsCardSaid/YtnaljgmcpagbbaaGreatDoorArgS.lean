import Derived.Deep.Slices
import Derived.Deep.Fields
import Derived.ChangeSame
import Derived.SizedLaws
import Derived.Handed
import Derived.HandedShaped
import Derived.Shelf.Vars
import Derived.ProofKit
import Derived.Test.YtnaljgmcpagbbaaGreatDoorArg
import Derived.Test.YtnaljgmcpagbbaaGreatDoorJQ
/- Arguments that are texts and slices of texts, as the value machine takes them; the library's variable at the start. -/
namespace Go.Proofs.YtnaljgmcpagbbaaGreatDoor
open Go.RowKit
set_option linter.unusedVariables false
theorem AtR_of {S : Sit} {b k : Nat} : ∀ {rows : List (List V)} {p : Nat}, (∀ r ∈ rows, r.length = k) → (∀ (i : Nat) (h : i < rows.length), AtL S rows[i] b (p + i * k)) → AtR S rows b p
  | [], _, _, _ => trivial
  | r :: rows, p, hk, h => ⟨by have := h 0 (by simp); simpa using this, by
      have hr : r.length = k := hk r List.mem_cons_self
      refine AtR_of (fun q hq => hk q (List.mem_cons_of_mem _ hq)) (fun i hi => ?_)
      have := h (i + 1) (by simpa using hi)
      rw [show p + r.length + i * k = p + (i + 1) * k by rw [hr, Nat.succ_mul]; omega]
      exact this⟩
theorem list_of {α : Type} {p : Nat → α → Prop} : ∀ n : Nat, (∀ i, i < n → ∃ x, p i x) → ∃ l : List α, l.length = n ∧ ∀ (i : Nat) (h : i < l.length), p i l[i]
  | 0, _ => ⟨[], rfl, fun i h => by simp at h⟩
  | n + 1, h => by
    obtain ⟨l, hl, hp⟩ := list_of n (fun i hi => h i (by omega))
    obtain ⟨x, hx⟩ := h n (by omega)
    refine ⟨l ++ [x], by simp [hl], fun i hi => ?_⟩
    have hi' : i < n + 1 := by simpa [hl] using hi
    by_cases e : i < l.length
    · rw [List.getElem_append_left e]; exact hp i e
    · have : i = n := by omega
      subst this
      simp only [List.getElem_append_right (Nat.le_of_not_lt e), hl, Nat.sub_self, List.getElem_cons_zero]
      exact hx
section
open Go.ChangeShapes Go.WideShapes Go.Deep
variable {H : Type} {enc : TypeId × Value → H} {P : Program} {W : World} {base : Nat} {spare : Nat → Bool} {held : Bool}
theorem trod_cells {t : TypeId} {fs : Array Field} {fuel : Nat} {cs : List Value} {x : DataW H × List MemPlace} (ht : P.underlying t = some (.struct fs)) (hone : oneCellFields P fs = true) (hC : P.cellsOf t = fs.size)
    (h : DataW.trod enc P W base spare held fuel t cs = some x) : cs.length = fs.size ∧ ∃ n, ∀ (j : Nat) (f : Field), fs[j]? = some f → ∃ v y, cs[j]? = some v ∧ DataW.trod enc P W base spare held n f.type [v] = some y := by
  obtain ⟨ys, n, _, _, hlen, hyl, hf⟩ := DataW.trod_struct ht h
  rw [hC] at hlen
  refine ⟨hlen, n, fun j f hj => ?_⟩
  obtain ⟨ho, hk⟩ := hone_of hone j f hj
  have hjl : j < cs.length := by rw [hlen]; exact (Array.getElem?_eq_some_iff.1 hj).1
  have hjy : j < ys.length := by rw [hyl]; exact (Array.getElem?_eq_some_iff.1 hj).1
  have h1 := hf j f hj
  rw [ho, hk, List.drop_eq_getElem_cons hjl, List.getElem?_eq_getElem hjy] at h1
  exact ⟨cs[j], ys[j], List.getElem?_eq_getElem hjl, h1⟩
theorem slice_arg {α : Type} (f : α → List V) {k : Nat} {t e : TypeId} (hk0 : 0 < k) (ht : P.underlying t = some (.slice e)) (hC : P.cellsOf e = k) (hlen : ∀ x, (f x).length = k) (hcl : ∀ x, V.refsL (f x) = [])
    (rd : ∀ fuel cs y, DataW.trod enc P W base spare held fuel e cs = some y → ∃ x, RepL (S0 (fun _ _ => False) W) (f x) cs ∧ ∀ u ∈ cs, u.oneCell' = true) {fuel : Nat} {cs : List Value} {y : DataW H × List MemPlace} (h : DataW.trod enc P W base spare held fuel t cs = some y) :
    ∃ (v : Value) (l : List α), cs = [v] ∧ v.oneCell' = true ∧ l.length ≤ 9223372036854775807 ∧ Rep (S0 (fun _ _ => False) W) (.sl k (l.map f)) v := by
  have hrow : ∀ (l : List α), ∀ r ∈ l.map f, r.length = k := fun l r hr => by obtain ⟨x, _, rfl⟩ := List.mem_map.1 hr; exact hlen x
  rcases open_slice ht h with ⟨hcs, _⟩ | ⟨x, l, c, m, n, D, Pl, hcs, _, hl, hm, hmm, _, hi⟩
  · exact ⟨_, [], hcs, rfl, by simp, LeV.nil k _ _ rfl⟩
  · obtain ⟨L, hL, hp⟩ := list_of (p := fun i z => ∀ j (hj : j < k), ∃ u, W.cell? (x.add (i * k + j)) = some u ∧ u.oneCell' = true ∧ Rep (S0 (fun _ _ => False) W) ((f z)[j]'(by rw [hlen]; exact hj)) u) l (fun i hil => by
      have him : i < m := by rw [hmm]; split <;> omega
      obtain ⟨cs', hc, ht'⟩ := hi i him
      rw [hC] at hc
      obtain ⟨_, _, hat⟩ := World.cells?_some hc
      obtain ⟨z, hz, h1⟩ := rd _ _ _ ht'
      refine ⟨z, fun j hj => ?_⟩
      obtain ⟨u, hu, hru⟩ := RepL.get hz j (by rw [hlen]; exact hj)
      have := hat j hj
      rw [add_add, hu] at this
      exact ⟨u, this, h1 u (List.mem_of_getElem? hu), hru⟩)
    have hml : l ≤ 9223372036854775807 := by unfold maxLen at hm; omega
    have hsp : L ≠ [] → x.spot = none := fun hne => by
      have h0 : 0 < L.length := List.length_pos_iff.2 hne
      obtain ⟨u, hu, _⟩ := hp 0 h0 0 hk0
      have := World.cell?_spot hu
      obtain ⟨b, off, sp⟩ := x
      simpa [Addr.add] using this
    refine ⟨_, L, hcs, rfl, by omega, some x, c, by simp [hL], by simpa [hL] using hl, hm, (fun e => by cases e), hrow L, (fun r hr => by obtain ⟨z, _, rfl⟩ := List.mem_map.1 hr; exact hcl z), fun y hy => ?_⟩
    injection hy with hy; subst hy
    refine ⟨fun hne => hsp (fun e => hne (by rw [e]; rfl)), AtR_of (k := k) (hrow L) (fun i hi => ?_)⟩
    have hi' : i < L.length := by simpa using hi
    rw [List.getElem_map]
    refine AtL.of_get fun j hj => ?_
    have hjk : j < k := by rw [← hlen L[i]]; exact hj
    obtain ⟨u, hc, h1, hru⟩ := hp i hi' j hjk
    have hs := hsp (fun e => by rw [e] at hi'; simp at hi')
    obtain ⟨b, off, sp⟩ := x
    simp only at hs; subst hs
    have hadd : (⟨b, off, none⟩ : Addr).add (i * k + j) = ⟨b, off + i * k + j, none⟩ := by simp [Addr.add, Nat.add_assoc]
    rw [hadd] at hc
    exact ⟨fun q => q, u, hc, h1, hru⟩
theorem strs_rd {fuel : Nat} {cs : List Value} {y : DataW H × List MemPlace} (h : DataW.trod enc Tryz.prog W base spare held fuel 9 cs = some y) : ∃ w : Jb, RepL (S0 (fun _ _ => False) W) [V.str w] cs ∧ ∀ u ∈ cs, u.oneCell' = true := by
  obtain ⟨s, rfl, _⟩ := DataW.trod_string Tryz.underlying9 h
  exact ⟨s.data.toList, ⟨_, _, rfl, by cases s; rfl, rfl⟩, fun u hu => by rw [List.mem_singleton] at hu; subst hu; rfl⟩
theorem strs_cs {fuel : Nat} {cs : List Value} {y : DataW H × List MemPlace} (h : DataW.trod enc Tryz.prog W base spare held fuel 25 cs = some y) : ∃ (v : Value) (l : List Jb), cs = [v] ∧ v.oneCell' = true ∧ l.length ≤ 9223372036854775807 ∧ Rep (S0 (fun _ _ => False) W) (strsV l) v :=
  slice_arg (fun w : Jb => [V.str w]) (k := 1) (by decide) Tryz.underlying25 (by kernel_rfl) (fun _ => rfl) (fun _ => rfl) (fun _ _ _ h => strs_rd h) h
theorem strs_arg {a : Option Addr} {len cap : Nat} {d : DataW H} {p : List MemPlace} (hs : ∀ x, a = some x → x.spot = none)
    (h : DataW.Trod enc Tryz.prog W base spare held 25 (.slice a len cap) d p) : ∃ l : List Jb, l.length ≤ 9223372036854775807 ∧ Rep (S0 (fun _ _ => False) W) (strsV l) (.slice a len cap) := by
  obtain ⟨fuel, hf⟩ := h
  obtain ⟨v, l, e, _, h1, h2⟩ := strs_cs hf
  have e : [Value.slice a len cap] = [v] := e
  injection e with e _
  subst e
  exact ⟨l, h1, h2⟩
end
theorem gc_shaped {w : World} (h : w.ShapedOpen Tryz.prog) : GcW w :=
  cell_of_shapedOpen_int (P := Tryz.prog) (g := gB) (t := 3) (zero := #[.int .i64 0]) h (of_decide_eq_true (by kernel_rfl)) (by kernel_rfl) rfl (by kernel_rfl) (by kernel_rfl) Tryz.underlying3
theorem law_in {P : Program} {f : FuncId} {args : List V} {vs : List Value} {w : World} (h : Spec P f args (.bool true)) (hg : GcW w) (hr : RepL (S0 (fun _ _ => False) w) args vs) : Calls P f vs.toArray w fun e w' => e = .returned (.bool true) ∧ Below w.heap.size w w' :=
  (h.run (fun _ _ => False) w vs (fun _ _ h => h.elim) ⟨fun h => h, hg⟩ hr).mono fun e w' ⟨v, he, hc, hv⟩ => ⟨by rw [he]; exact congrArg _ hv, hc.nil_below⟩
section
variable {H : Type} {enc : TypeId × Value → H}
theorem change_and_shaped {a : Assume} {C : Checked} {os : Os} {f : FuncId} {fn : Func} {s : ChangeSpec} {conds : List PathCond} {apart fresh handsOn again : Bool} {X : World → Array Value → Prop}
    (hX : ∀ (w w' : World) (args : Array Value), w.heap = w'.heap → X w args → X w' args)
    (own : ownKnob C.prog.godebug = none) (started : os.Started) (noInit : C.prog.inits.idxOf? f = none) (hfn : C.prog.funcs[f]? = some fn)
    (witness : ∃ (w : World) (tape : Tape) (i : Input), w.os = os ∧ (w.forCall tape i).Shaped C.prog ∧ i.vars = [] ∧ Input.okWide C.prog (w.forCall tape i) .any w.heap.size f i ∧
      ((s.pre enc C.prog fn conds apart (w.forCall tape i).memory i.args ∧ X (w.forCall tape i).memory i.args) ∧ sizedMet enc C.prog fn (OpenSpec.ofChange s) apart (w.forCall tape i).memory i.args) ∧ a.holds C.prog (lone (Frame.enter C.prog f i.args .normal) [] (w.forCall tape i)))
    (contract : ∀ (W : World) (base : Nat) (args : Array Value) (ds gs : List (DataW H)) (before : List MemPlace),
      (∀ (j : Nat) t v, fn.params[j]? = some t → args[j]? = some v → Value.okWide C.prog W .any base t v) →
      DataW.Whole enc C.prog fn.params.toList s.vars apart W args.toList ds gs before → W.ShapedOpen C.prog →
      Calls C.prog f args W fun e W' => ∃ v, e = .returned v ∧ s.post enc C.prog fn apart fresh handsOn again W args v W') :
    ReturnsInHanded a C os f .any (fun w args => (s.pre enc C.prog fn conds apart w args ∧ X w args) ∧ sizedMet enc C.prog fn (OpenSpec.ofChange s) apart w args) (s.post enc C.prog fn apart fresh handsOn again) := by
  refine returnsInHanded_of_calls own started noInit witness ?_
  intro w tape i _ hsh _ hok hpre _
  obtain ⟨_, _, _, g, hg, _, _, _, _, hval⟩ := hok
  obtain rfl : g = fn := Option.some.inj (hg.symm.trans hfn)
  obtain ⟨⟨⟨ds, gs, before, hw, hc⟩, hx⟩, hz⟩ := hpre
  refine (contract (w.forCall tape i) w.heap.size i.args ds gs before hval (DataW.Whole.of_heap (w' := w.forCall tape i) (by rfl) hw) hsh).mono fun e W' ⟨v, he, hp⟩ => ?_
  subst he
  exact ChangeSpec.post_blind hp
end
end Go.Proofs.YtnaljgmcpagbbaaGreatDoor

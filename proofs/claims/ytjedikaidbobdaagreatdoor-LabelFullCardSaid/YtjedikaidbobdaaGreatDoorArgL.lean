import Derived.Deep.Slices
import Derived.Deep.Fields
import Derived.ChangeSame
import Derived.SizedLaws
import Derived.Handed
import Derived.HandedShaped
import Derived.Shelf.Vars
import Derived.ProofKit
import Derived.Test.YtjedikaidbobdaaGreatDoorArg
import Derived.Test.YtjedikaidbobdaaGreatDoorUN
import Derived.Lib.LaidTab
import Derived.Test.YtjedikaidbobdaaGreatDoorRows
/- Arguments that are texts and slices of texts, as the value machine takes them; the library's variable at the start. -/
namespace Go.Proofs.YtjedikaidbobdaaGreatDoor
open Go.RowKit
set_option linter.unusedVariables false
theorem AtR_of {S : Sit} {b k : Nat} : ∀ {rows : List (List V)} {p : Nat}, (∀ r ∈ rows, r.length = k) → (∀ (i : Nat) (h : i < rows.length), AtL S rows[i] b (p + i * k)) → AtR S rows b p
  | [], _, _, _ => trivial
  | r :: rows, p, hk, h => ⟨by have := h 0 (by simp); simpa using this, by
      have hr : r.length = k := hk r List.mem_cons_self
      refine AtR_of (fun q hq => hk q (List.mem_cons_of_mem _ hq)) (fun i hi => ?_)
      have := h (i + 1) (by simpa using hi)
      rw [show p + r.length + i * k = p + (i + 1) * k by rw [hr, Nat.succ_mul]; omega]
      exact this⟩
theorem w8 {n : Int} (h : (Lit.int .u8 n).wf = true) : 0 ≤ n ∧ n < 256 := by simp [Lit.wf, IntKind.min, IntKind.max, IntKind.signed, IntKind.bits] at h; omega
theorem w64 {n : Int} (h : (Lit.int .i64 n).wf = true) : -9223372036854775808 ≤ n ∧ n ≤ 9223372036854775807 := by simp [Lit.wf, IntKind.min, IntKind.max, IntKind.signed, IntKind.bits] at h; omega
theorem list_of {α : Type} {p : Nat → α → Prop} : ∀ n : Nat, (∀ i, i < n → ∃ x, p i x) → ∃ l : List α, l.length = n ∧ ∀ (i : Nat) (h : i < l.length), p i l[i]
  | 0, _ => ⟨[], rfl, fun i h => by simp at h⟩
  | n + 1, h => by
    obtain ⟨l, hl, hp⟩ := list_of n (fun i hi => h i (by omega))
    obtain ⟨x, hx⟩ := h n (by omega)
    refine ⟨l ++ [x], by simp [hl], fun i hi => ?_⟩
    have hi' : i < n + 1 := by simpa [hl] using hi
    by_cases e : i < l.length
    · rw [List.getElem_append_left e]; exact hp i e
    · have : i = n := by omega
      subst this
      simp only [List.getElem_append_right (Nat.le_of_not_lt e), hl, Nat.sub_self, List.getElem_cons_zero]
      exact hx
section
open Go.ChangeShapes Go.WideShapes Go.Deep
variable {H : Type} {enc : TypeId × Value → H} {P : Program} {W : World} {base : Nat} {spare : Nat → Bool} {held : Bool}
theorem trod_cells {t : TypeId} {fs : Array Field} {fuel : Nat} {cs : List Value} {x : DataW H × List MemPlace} (ht : P.underlying t = some (.struct fs)) (hone : oneCellFields P fs = true) (hC : P.cellsOf t = fs.size)
    (h : DataW.trod enc P W base spare held fuel t cs = some x) : cs.length = fs.size ∧ ∃ n, ∀ (j : Nat) (f : Field), fs[j]? = some f → ∃ v y, cs[j]? = some v ∧ DataW.trod enc P W base spare held n f.type [v] = some y := by
  obtain ⟨ys, n, _, _, hlen, hyl, hf⟩ := DataW.trod_struct ht h
  rw [hC] at hlen
  refine ⟨hlen, n, fun j f hj => ?_⟩
  obtain ⟨ho, hk⟩ := hone_of hone j f hj
  have hjl : j < cs.length := by rw [hlen]; exact (Array.getElem?_eq_some_iff.1 hj).1
  have hjy : j < ys.length := by rw [hyl]; exact (Array.getElem?_eq_some_iff.1 hj).1
  have h1 := hf j f hj
  rw [ho, hk, List.drop_eq_getElem_cons hjl, List.getElem?_eq_getElem hjy] at h1
  exact ⟨cs[j], ys[j], List.getElem?_eq_getElem hjl, h1⟩
theorem slice_arg {α : Type} (f : α → List V) {k : Nat} {t e : TypeId} (hk0 : 0 < k) (ht : P.underlying t = some (.slice e)) (hC : P.cellsOf e = k) (hlen : ∀ x, (f x).length = k) (hcl : ∀ x, V.refsL (f x) = [])
    (rd : ∀ fuel cs y, DataW.trod enc P W base spare held fuel e cs = some y → ∃ x, RepL (S0 (fun _ _ => False) W) (f x) cs ∧ ∀ u ∈ cs, u.oneCell' = true) {fuel : Nat} {cs : List Value} {y : DataW H × List MemPlace} (h : DataW.trod enc P W base spare held fuel t cs = some y) :
    ∃ (v : Value) (l : List α), cs = [v] ∧ v.oneCell' = true ∧ l.length ≤ 9223372036854775807 ∧ Rep (S0 (fun _ _ => False) W) (.sl k (l.map f)) v := by
  have hrow : ∀ (l : List α), ∀ r ∈ l.map f, r.length = k := fun l r hr => by obtain ⟨x, _, rfl⟩ := List.mem_map.1 hr; exact hlen x
  rcases open_slice ht h with ⟨hcs, _⟩ | ⟨x, l, c, m, n, D, Pl, hcs, _, hl, hm, hmm, _, hi⟩
  · exact ⟨_, [], hcs, rfl, by simp, LeV.nil k _ _ rfl⟩
  · obtain ⟨L, hL, hp⟩ := list_of (p := fun i z => ∀ j (hj : j < k), ∃ u, W.cell? (x.add (i * k + j)) = some u ∧ u.oneCell' = true ∧ Rep (S0 (fun _ _ => False) W) ((f z)[j]'(by rw [hlen]; exact hj)) u) l (fun i hil => by
      have him : i < m := by rw [hmm]; split <;> omega
      obtain ⟨cs', hc, ht'⟩ := hi i him
      rw [hC] at hc
      obtain ⟨_, _, hat⟩ := World.cells?_some hc
      obtain ⟨z, hz, h1⟩ := rd _ _ _ ht'
      refine ⟨z, fun j hj => ?_⟩
      obtain ⟨u, hu, hru⟩ := RepL.get hz j (by rw [hlen]; exact hj)
      have := hat j hj
      rw [add_add, hu] at this
      exact ⟨u, this, h1 u (List.mem_of_getElem? hu), hru⟩)
    have hml : l ≤ 9223372036854775807 := by unfold maxLen at hm; omega
    have hsp : L ≠ [] → x.spot = none := fun hne => by
      have h0 : 0 < L.length := List.length_pos_iff.2 hne
      obtain ⟨u, hu, _⟩ := hp 0 h0 0 hk0
      have := World.cell?_spot hu
      obtain ⟨b, off, sp⟩ := x
      simpa [Addr.add] using this
    refine ⟨_, L, hcs, rfl, by omega, some x, c, by simp [hL], by simpa [hL] using hl, hm, (fun e => by cases e), hrow L, (fun r hr => by obtain ⟨z, _, rfl⟩ := List.mem_map.1 hr; exact hcl z), fun y hy => ?_⟩
    injection hy with hy; subst hy
    refine ⟨fun hne => hsp (fun e => hne (by rw [e]; rfl)), AtR_of (k := k) (hrow L) (fun i hi => ?_)⟩
    have hi' : i < L.length := by simpa using hi
    rw [List.getElem_map]
    refine AtL.of_get fun j hj => ?_
    have hjk : j < k := by rw [← hlen L[i]]; exact hj
    obtain ⟨u, hc, h1, hru⟩ := hp i hi' j hjk
    have hs := hsp (fun e => by rw [e] at hi'; simp at hi')
    obtain ⟨b, off, sp⟩ := x
    simp only at hs; subst hs
    have hadd : (⟨b, off, none⟩ : Addr).add (i * k + j) = ⟨b, off + i * k + j, none⟩ := by simp [Addr.add, Nat.add_assoc]
    rw [hadd] at hc
    exact ⟨fun q => q, u, hc, h1, hru⟩
theorem u8_rd {fuel : Nat} {cs : List Value} {y : DataW H × List MemPlace} (h : DataW.trod enc Tryz.prog W base spare held fuel 5 cs = some y) : ∃ c : UInt8, RepL (S0 (fun _ _ => False) W) (u8c c) cs ∧ ∀ u ∈ cs, u.oneCell' = true := by
  obtain ⟨n, rfl, _, g⟩ := DataW.trod_int Tryz.underlying5 h
  obtain ⟨h1, h2⟩ := w8 g
  refine ⟨UInt8.ofNat n.toNat, ⟨_, _, rfl, ?_, rfl⟩, fun u hu => by rw [List.mem_singleton] at hu; subst hu; rfl⟩
  have : ((UInt8.ofNat n.toNat).toNat : Int) = n := by rw [UInt8.toNat_ofNat_of_lt' (by show _ < 256; omega)]; omega
  show Value.int .u8 n = Value.int .u8 _
  rw [this]
theorem bs_cs {fuel : Nat} {cs : List Value} {y : DataW H × List MemPlace} (h : DataW.trod enc Tryz.prog W base spare held fuel 45 cs = some y) : ∃ (v : Value) (l : Bs), cs = [v] ∧ v.oneCell' = true ∧ l.length ≤ 9223372036854775807 ∧ Rep (S0 (fun _ _ => False) W) (u8V l) v :=
  slice_arg u8c (k := 1) (by decide) Tryz.underlying45 (by kernel_rfl) (fun _ => rfl) (fun _ => rfl) (fun _ _ _ h => u8_rd h) h
theorem blk_rd {fuel : Nat} {cs : List Value} {y : DataW H × List MemPlace} (h : DataW.trod enc Tryz.prog W base spare held fuel 45 cs = some y) : ∃ r : Tb, RepL (S0 (fun _ _ => False) W) (blkR r) cs ∧ ∀ u ∈ cs, u.oneCell' = true := by
  obtain ⟨v, l, rfl, h1, _, h3⟩ := bs_cs h
  exact ⟨l, ⟨_, _, rfl, h3, rfl⟩, fun u hu => by rw [List.mem_singleton] at hu; subst hu; exact h1⟩
theorem recs_cs {fuel : Nat} {cs : List Value} {y : DataW H × List MemPlace} (h : DataW.trod enc Tryz.prog W base spare held fuel 42 cs = some y) : ∃ (v : Value) (l : List Tb), cs = [v] ∧ v.oneCell' = true ∧ l.length ≤ 9223372036854775807 ∧ Rep (S0 (fun _ _ => False) W) (.sl 1 (l.map blkR)) v :=
  slice_arg blkR (k := 1) (by decide) Tryz.underlying42 (by kernel_rfl) (fun _ => rfl) (fun _ => rfl) (fun _ _ _ h => blk_rd h) h
theorem dcb_rd {fuel : Nat} {cs : List Value} {x : DataW H × List MemPlace} (h : DataW.trod enc Tryz.prog W base spare held fuel 41 cs = some x) : ∃ d : DcbT, RepL (S0 (fun _ _ => False) W) (dcbC d) cs ∧ ∀ u ∈ cs, u.oneCell' = true := by
  obtain ⟨hl, m, hf⟩ := trod_cells Tryz.underlying41 (by kernel_rfl) (by kernel_rfl) h
  obtain ⟨v0, y0, c0, t0⟩ := hf 0 _ rfl
  obtain ⟨v1, y1, c1, t1⟩ := hf 1 _ rfl
  obtain ⟨v2, y2, c2, t2⟩ := hf 2 _ rfl
  obtain ⟨v3, y3, c3, t3⟩ := hf 3 _ rfl
  obtain ⟨v4, y4, c4, t4⟩ := hf 4 _ rfl
  obtain ⟨v5, y5, c5, t5⟩ := hf 5 _ rfl
  obtain ⟨v6, y6, c6, t6⟩ := hf 6 _ rfl
  obtain ⟨v7, y7, c7, t7⟩ := hf 7 _ rfl
  obtain ⟨n0, e0, _, g0⟩ := DataW.trod_int Tryz.underlying3 t0
  obtain ⟨n1, e1, _, g1⟩ := DataW.trod_int Tryz.underlying3 t1
  obtain ⟨n2, e2, _⟩ := DataW.trod_bool Tryz.underlying4 t2
  obtain ⟨n3, e3, _⟩ := DataW.trod_bool Tryz.underlying4 t3
  obtain ⟨n4, e4, _, g4⟩ := DataW.trod_int Tryz.underlying3 t4
  obtain ⟨n5, e5, _, g5⟩ := DataW.trod_int Tryz.underlying3 t5
  obtain ⟨n6, e6, _, g6⟩ := DataW.trod_int Tryz.underlying3 t6
  obtain ⟨n7, e7, _, g7⟩ := DataW.trod_int Tryz.underlying3 t7
  cases e0; cases e1; cases e2; cases e3; cases e4; cases e5; cases e6; cases e7
  have hl : cs.length = 8 := hl
  match cs, hl with
  | [_, _, _, _, _, _, _, _], _ =>
    simp only [List.getElem?_cons_zero, List.getElem?_cons_succ, Option.some.injEq] at c0 c1 c2 c3 c4 c5 c6 c7
    subst c0; subst c1; subst c2; subst c3; subst c4; subst c5; subst c6; subst c7
    exact ⟨⟨n0, n1, n2, n3, n4, n5, n6, n7⟩, ⟨_, _, rfl, rfl, _, _, rfl, rfl, _, _, rfl, rfl, _, _, rfl, rfl, _, _, rfl, rfl, _, _, rfl, rfl, _, _, rfl, rfl, _, _, rfl, rfl, rfl⟩, fun u hu => by
      simp only [List.mem_cons, List.not_mem_nil, or_false] at hu
      rcases hu with rfl | rfl | rfl | rfl | rfl | rfl | rfl | rfl <;> rfl⟩
set_option maxRecDepth 8000 in
theorem fil_rd {fuel : Nat} {cs : List Value} {x : DataW H × List MemPlace} (h : DataW.trod enc Tryz.prog W base spare held fuel 50 cs = some x) : ∃ f : FilT, RepL (S0 (fun _ _ => False) W) (filC f) cs ∧ ∀ u ∈ cs, u.oneCell' = true := by
  obtain ⟨ys, n, _, _, hlen, hyl, hf⟩ := DataW.trod_struct Tryz.underlying50 h
  have hlen : cs.length = 10 := hlen.trans (by kernel_rfl)
  have hyl : ys.length = 3 := hyl
  match cs, hlen, ys, hyl with
  | [a0, a1, a2, a3, a4, a5, a6, a7, a8, a9], _, [z0, z1, z2], _ =>
    have t0 : DataW.trod enc Tryz.prog W base spare held n 9 [a0] = some z0 := hf 0 _ rfl
    have t1 : DataW.trod enc Tryz.prog W base spare held n 41 [a1, a2, a3, a4, a5, a6, a7, a8] = some z1 := hf 1 _ rfl
    have t2 : DataW.trod enc Tryz.prog W base spare held n 42 [a9] = some z2 := hf 2 _ rfl
    obtain ⟨n0, e0, _, g0⟩ := DataW.trod_string Tryz.underlying9 t0
    obtain ⟨d, rd, od⟩ := dcb_rd t1
    obtain ⟨v2, l2, e2, o2, _, r2⟩ := recs_cs t2
    cases e0; cases e2
    obtain ⟨_, _, q1, w1, _, _, q2, w2, _, _, q3, w3, _, _, q4, w4, _, _, q5, w5, _, _, q6, w6, _, _, q7, w7, _, _, q8, w8, q9⟩ := rd
    cases q1; cases q2; cases q3; cases q4; cases q5; cases q6; cases q7; cases q8
    refine ⟨⟨n0.data.toList, d, l2⟩, ⟨_, _, rfl, by cases n0; rfl, _, _, rfl, w1, _, _, rfl, w2, _, _, rfl, w3, _, _, rfl, w4, _, _, rfl, w5, _, _, rfl, w6, _, _, rfl, w7, _, _, rfl, w8, _, _, rfl, r2, rfl⟩, fun u hu => ?_⟩
    rw [List.mem_cons] at hu
    rcases hu with rfl | hu
    · rfl
    · rw [show ([a1, a2, a3, a4, a5, a6, a7, a8, a9] : List Value) = [a1, a2, a3, a4, a5, a6, a7, a8] ++ [a9] by rfl, List.mem_append] at hu
      rcases hu with hu | hu
      · exact od u hu
      · rw [List.mem_singleton] at hu; subst hu; exact o2
set_option maxRecDepth 8000 in
theorem fils_arg {a : Option Addr} {len cap : Nat} {d : DataW H} {p : List MemPlace} (hs : ∀ x, a = some x → x.spot = none)
    (h : DataW.Trod enc Tryz.prog W base spare held 22 (.slice a len cap) d p) : ∃ l : List FilT, l.length ≤ 9223372036854775807 ∧ Rep (S0 (fun _ _ => False) W) (.sl 10 (l.map filC)) (.slice a len cap) := by
  obtain ⟨fuel, hf⟩ := h
  obtain ⟨v, l, e, _, h1, h2⟩ := slice_arg filC (k := 10) (by decide) Tryz.underlying22 (by kernel_rfl) (fun _ => rfl) (fun _ => rfl) (fun _ _ _ h => fil_rd h) hf
  have e : [Value.slice a len cap] = [v] := e
  injection e with e _
  subst e
  exact ⟨l, h1, h2⟩
set_option maxRecDepth 100000 in
theorem fil_arg {r : Reach} {b0 : Nat} {v : Value} {d : DataW H} {p : List MemPlace} (hv : Value.okWide Tryz.prog W r b0 50 v) (h : DataW.Trod enc Tryz.prog W base spare held 50 v d p) :
    ∃ f : FilT, Rep (S0 (fun _ _ => False) W) (filV f) v := by
  obtain ⟨cs, rfl, _⟩ := okWide_struct Tryz.underlying50 hv
  obtain ⟨fuel, hf⟩ := h
  have hf : DataW.trod enc Tryz.prog W base spare held fuel 50 cs.toList = some _ := hf
  obtain ⟨f, h1, h2⟩ := fil_rd hf
  exact ⟨f, cs.toList, rfl, h2, h1⟩
set_option maxRecDepth 8000 in
theorem tb_rd {fuel : Nat} {cs : List Value} {x : DataW H × List MemPlace} (h : DataW.trod enc Tryz.prog W base spare held fuel 48 cs = some x) : ∃ t : TbT, RepL (S0 (fun _ _ => False) W) (tbC t) cs ∧ ∀ u ∈ cs, u.oneCell' = true := by
  obtain ⟨hl, m, hf⟩ := trod_cells Tryz.underlying48 (by kernel_rfl) (by kernel_rfl) h
  obtain ⟨v0, y0, c0, t0⟩ := hf 0 _ rfl
  obtain ⟨v1, y1, c1, t1⟩ := hf 1 _ rfl
  obtain ⟨v2, y2, c2, t2⟩ := hf 2 _ rfl
  obtain ⟨n0, e0, _⟩ := DataW.trod_bool Tryz.underlying4 t0
  obtain ⟨u1, l1, e1, o1, _, r1⟩ := bs_cs t1
  obtain ⟨n2, e2, _⟩ := DataW.trod_bool Tryz.underlying4 t2
  cases e0; cases e1; cases e2
  have hl : cs.length = 3 := hl
  match cs, hl with
  | [_, _, _], _ =>
    simp only [List.getElem?_cons_zero, List.getElem?_cons_succ, Option.some.injEq] at c0 c1 c2
    subst c0; subst c1; subst c2
    exact ⟨⟨n0, l1, n2⟩, ⟨_, _, rfl, rfl, _, _, rfl, r1, _, _, rfl, rfl, rfl⟩, fun u hu => by
      simp only [List.mem_cons, List.not_mem_nil, or_false] at hu
      rcases hu with rfl | rfl | rfl
      · rfl
      · exact o1
      · rfl⟩
set_option maxRecDepth 8000 in
theorem tbs_arg {a : Option Addr} {len cap : Nat} {d : DataW H} {p : List MemPlace} (hs : ∀ x, a = some x → x.spot = none)
    (h : DataW.Trod enc Tryz.prog W base spare held 26 (.slice a len cap) d p) : ∃ l : List TbT, l.length ≤ 9223372036854775807 ∧ Rep (S0 (fun _ _ => False) W) (.sl 3 (l.map tbC)) (.slice a len cap) := by
  obtain ⟨fuel, hf⟩ := h
  obtain ⟨v, l, e, _, h1, h2⟩ := slice_arg tbC (k := 3) (by decide) Tryz.underlying26 (by kernel_rfl) (fun _ => rfl) (fun _ => rfl) (fun _ _ _ h => tb_rd h) hf
  have e : [Value.slice a len cap] = [v] := e
  injection e with e _
  subst e
  exact ⟨l, h1, h2⟩
end
theorem law_in {P : Program} {f : FuncId} {args : List V} {vs : List Value} {w : World} (h : Spec P f args (.bool true)) (hg : GcW w) (hr : RepL (S0 (fun _ _ => False) w) args vs) : Calls P f vs.toArray w fun e w' => e = .returned (.bool true) ∧ Below w.heap.size w w' :=
  (h.run (fun _ _ => False) w vs (fun _ _ h => h.elim) ⟨fun _ _ _ h => h, hg⟩ hr).mono fun e w' ⟨v, he, hc, hv⟩ => ⟨by rw [he]; exact congrArg _ hv, hc.nil_below⟩
section
variable {H : Type} {enc : TypeId × Value → H}
theorem change_and_shaped {a : Assume} {C : Checked} {os : Os} {f : FuncId} {fn : Func} {s : ChangeSpec} {conds : List PathCond} {apart fresh handsOn again : Bool} {X : World → Array Value → Prop}
    (hX : ∀ (w w' : World) (args : Array Value), w.heap = w'.heap → X w args → X w' args)
    (own : ownKnob C.prog.godebug = none) (started : os.Started) (noInit : C.prog.inits.idxOf? f = none) (hfn : C.prog.funcs[f]? = some fn)
    (witness : ∃ (w : World) (tape : Tape) (i : Input), w.os = os ∧ (w.forCall tape i).Shaped C.prog ∧ i.vars = [] ∧ Input.okWide C.prog (w.forCall tape i) .any w.heap.size f i ∧
      ((s.pre enc C.prog fn conds apart (w.forCall tape i).memory i.args ∧ X (w.forCall tape i).memory i.args) ∧ sizedMet enc C.prog fn (OpenSpec.ofChange s) apart (w.forCall tape i).memory i.args) ∧ a.holds C.prog (lone (Frame.enter C.prog f i.args .normal) [] (w.forCall tape i)))
    (contract : ∀ (W : World) (base : Nat) (args : Array Value) (ds gs : List (DataW H)) (before : List MemPlace),
      (∀ (j : Nat) t v, fn.params[j]? = some t → args[j]? = some v → Value.okWide C.prog W .any base t v) →
      DataW.Whole enc C.prog fn.params.toList s.vars apart W args.toList ds gs before → W.ShapedOpen C.prog → X W args →
      Calls C.prog f args W fun e W' => ∃ v, e = .returned v ∧ s.post enc C.prog fn apart fresh handsOn again W args v W') :
    ReturnsInHanded a C os f .any (fun w args => (s.pre enc C.prog fn conds apart w args ∧ X w args) ∧ sizedMet enc C.prog fn (OpenSpec.ofChange s) apart w args) (s.post enc C.prog fn apart fresh handsOn again) := by
  refine returnsInHanded_of_calls own started noInit witness ?_
  intro w tape i _ hsh _ hok hpre _
  obtain ⟨_, _, _, g, hg, _, _, _, _, hval⟩ := hok
  obtain rfl : g = fn := Option.some.inj (hg.symm.trans hfn)
  obtain ⟨⟨⟨ds, gs, before, hw, hc⟩, hx⟩, hz⟩ := hpre
  refine (contract (w.forCall tape i) w.heap.size i.args ds gs before hval (DataW.Whole.of_heap (w' := w.forCall tape i) (by rfl) hw) hsh (hX _ _ _ (by rfl) hx)).mono fun e W' ⟨v, he, hp⟩ => ?_
  subst he
  exact ChangeSpec.post_blind hp
end
end Go.Proofs.YtjedikaidbobdaaGreatDoor

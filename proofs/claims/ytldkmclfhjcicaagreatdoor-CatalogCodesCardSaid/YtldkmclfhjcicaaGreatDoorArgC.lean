import Derived.LaidMore
import Derived.ProofKit
import Derived.Stop.Joined
import Derived.Stop.LaidErr
import Derived.Lay
import Derived.OpenShut
import Derived.Deep.Slices
import Derived.Deep.Fields
import Derived.ChangeSame
import Derived.Test.YtldkmclfhjcicaaGreatDoorRows
import Derived.Test.YtldkmclfhjcicaaGreatDoorArg
import Derived.Test.YtldkmclfhjcicaaGreatDoorBw
import Derived.Test.YtldkmclfhjcicaaGreatDoorWF

/- What the tied cards of layer 27 ask of the start: two tables lie; no walk reads them. -/
namespace Go.Proofs.YtldkmclfhjcicaaGreatDoor
open Go Go.ChangeShapes Go.WideShapes Go.ChangeAt Go.RowKit

def laid2 : List (String × DataW Unit) := [("unicode/utf8.acceptRanges", Rows.laid_unicode_utf8_acceptRanges), ("unicode/utf8.first", Rows.laid_unicode_utf8_first)]
/-- The start meets the condition. -/
theorem door_met (os : Os) (args : Array Value) : laidMetH Tryz.prog laid2 ((World.laidAll Tryz.prog os laid2).forCall (fun _ _ => 0) ⟨#[], args, []⟩).memory := by
  rw [MakeChecks.laidMetH_plain _ _ _ (by kernel_rfl)]; exact laidMet_laidAll _ (by kernel_rfl) (by kernel_rfl)

end Go.Proofs.YtldkmclfhjcicaaGreatDoor

/- An argument that is a slice of Op, as the value machine takes it. -/
namespace Go.Proofs.YtldkmclfhjcicaaGreatDoor
open Go.RowKit
set_option linter.unusedVariables false
theorem AtR_of {S : Sit} {b k : Nat} : ∀ {rows : List (List V)} {p : Nat}, (∀ r ∈ rows, r.length = k) → (∀ (i : Nat) (h : i < rows.length), AtL S rows[i] b (p + i * k)) → AtR S rows b p
  | [], _, _, _ => trivial
  | r :: rows, p, hk, h => ⟨by have := h 0 (by simp); simpa using this, by
      have hr : r.length = k := hk r List.mem_cons_self
      refine AtR_of (fun q hq => hk q (List.mem_cons_of_mem _ hq)) (fun i hi => ?_)
      have := h (i + 1) (by simpa using hi)
      rw [show p + r.length + i * k = p + (i + 1) * k by rw [hr, Nat.succ_mul]; omega]
      exact this⟩
def opCells (W : World) (a : Addr) (i : Nat) (o : OpS) : Prop :=
  W.cell? (a.add (i * 5)) = some (.int .u8 (o.kind : Int)) ∧ W.cell? (a.add (i * 5 + 1)) = some (.int .u8 (o.which : Int)) ∧ W.cell? (a.add (i * 5 + 2)) = some (.int .i64 (toI o.n)) ∧
  W.cell? (a.add (i * 5 + 3)) = some (.int .i64 o.unit) ∧ W.cell? (a.add (i * 5 + 4)) = some (.string ⟨o.serial.toArray⟩)
theorem toI_of {n : Int} (h0 : -9223372036854775808 ≤ n) (h1 : n ≤ 9223372036854775807) : toI (n % 18446744073709551616) = n := by unfold toI; split <;> omega
theorem op_of {W : World} {a : Addr} {i : Nat} {k wh n u : Int} {s : ByteArray} (h0 : W.cell? (a.add (i * 5)) = some (.int .u8 k)) (h1 : W.cell? (a.add (i * 5 + 1)) = some (.int .u8 wh)) (h2 : W.cell? (a.add (i * 5 + 2)) = some (.int .i64 n))
    (h3 : W.cell? (a.add (i * 5 + 3)) = some (.int .i64 u)) (h4 : W.cell? (a.add (i * 5 + 4)) = some (.string s)) (w0 : 0 ≤ k ∧ k < 256) (w1 : 0 ≤ wh ∧ wh < 256) (w2 : -9223372036854775808 ≤ n ∧ n ≤ 9223372036854775807) (w3 : -9223372036854775808 ≤ u ∧ u ≤ 9223372036854775807) (w4 : s.size ≤ 9223372036854775807) :
    ∃ o : OpS, OpOk o ∧ opCells W a i o := by
  obtain ⟨k', rfl⟩ := Int.eq_ofNat_of_zero_le w0.1
  obtain ⟨wh', rfl⟩ := Int.eq_ofNat_of_zero_le w1.1
  refine ⟨⟨k', wh', n % 18446744073709551616, u, s.data.toList⟩, ⟨by show k' < 256; omega, by show wh' < 256; omega, by show 0 ≤ n % 18446744073709551616; omega, by show n % 18446744073709551616 < _; omega, w3.1, w3.2, w4⟩, h0, h1, ?_, h3, h4⟩
  show _ = some (Value.int .i64 (toI (n % 18446744073709551616)))
  rw [toI_of w2.1 w2.2]; exact h2
theorem rep_ops {W : World} {a : Addr} {len cap : Nat} (hs : a.spot = none) (hc : len ≤ cap) (hm : cap ≤ maxLen) (h : ∀ i, i < len → ∃ o : OpS, OpOk o ∧ opCells W a i o) :
    ∃ l : List OpS, (∀ o ∈ l, OpOk o) ∧ l.length ≤ 9223372036854775807 ∧ Rep (S0 (fun _ _ => False) W) (.sl 5 (l.map opC)) (.slice (some a) len cap) := by
  classical
  obtain ⟨f, hf⟩ : ∃ f : Nat → OpS, ∀ i, i < len → OpOk (f i) ∧ opCells W a i (f i) :=
    ⟨fun i => if q : i < len then Classical.choose (h i q) else ⟨0, 0, 0, 0, []⟩, fun i q => by simp only [q, dif_pos]; exact Classical.choose_spec (h i q)⟩
  have hml : len ≤ 9223372036854775807 := by unfold maxLen at hm; omega
  refine ⟨(List.range len).map f, fun o ho => ?_, by simpa using hml, some a, cap, by simp, by simpa using hc, hm, (fun e => by cases e), fun r hr => ?_, fun r hr => ?_, fun x hx => ?_⟩
  · obtain ⟨i, hi, rfl⟩ := List.mem_map.1 ho
    exact (hf i (List.mem_range.1 hi)).1
  · obtain ⟨o, _, rfl⟩ := List.mem_map.1 hr; rfl
  · obtain ⟨o, _, rfl⟩ := List.mem_map.1 hr; rfl
  · injection hx with hx; subst hx
    refine ⟨hs, AtR_of (k := 5) (fun r hr => by obtain ⟨o, _, rfl⟩ := List.mem_map.1 hr; rfl) (fun i hi => ?_)⟩
    have hi' : i < len := by simpa using hi
    obtain ⟨c0, c1, c2, c3, c4⟩ := (hf i hi').2
    obtain ⟨b, off, sp⟩ := a
    simp only at hs; subst hs
    simp only [List.getElem_map, List.getElem_range]
    have ad : ∀ j, (⟨b, off, none⟩ : Addr).add (i * 5 + j) = ⟨b, off + i * 5 + j, none⟩ := fun j => by simp [Addr.add, Nat.add_assoc]
    have ad0 : (⟨b, off, none⟩ : Addr).add (i * 5) = ⟨b, off + i * 5, none⟩ := by simp [Addr.add]
    rw [ad0] at c0; rw [ad 1] at c1; rw [ad 2] at c2; rw [ad 3] at c3; rw [ad 4] at c4
    exact ⟨⟨fun q => q, _, c0, rfl, rfl⟩, ⟨fun q => q, _, c1, rfl, rfl⟩, ⟨fun q => q, _, c2, rfl, rfl⟩, ⟨fun q => q, _, c3, rfl, rfl⟩, ⟨fun q => q, _, c4, rfl, rfl⟩, trivial⟩
theorem rep_ops_nil {W : World} : ∃ l : List OpS, (∀ o ∈ l, OpOk o) ∧ l.length ≤ 9223372036854775807 ∧ Rep (S0 (fun _ _ => False) W) (.sl 5 (l.map opC)) (.slice none 0 0) :=
  ⟨[], (fun o h => by cases h), (by decide), LeV.nil 5 _ _ rfl⟩
theorem w8 {n : Int} (h : (Lit.int .u8 n).wf = true) : 0 ≤ n ∧ n < 256 := by simp [Lit.wf, IntKind.min, IntKind.max, IntKind.signed, IntKind.bits] at h; omega
theorem w64 {n : Int} (h : (Lit.int .i64 n).wf = true) : -9223372036854775808 ≤ n ∧ n ≤ 9223372036854775807 := by simp [Lit.wf, IntKind.min, IntKind.max, IntKind.signed, IntKind.bits] at h; omega
section
open Go.ChangeShapes Go.WideShapes Go.Deep
variable {H : Type} {enc : TypeId × Value → H} {P : Program} {W : World} {base : Nat} {spare : Nat → Bool} {held : Bool}
theorem trod_cells {t : TypeId} {fs : Array Field} {fuel : Nat} {cs : List Value} {x : DataW H × List MemPlace} (ht : P.underlying t = some (.struct fs)) (hone : oneCellFields P fs = true) (hC : P.cellsOf t = fs.size)
    (h : DataW.trod enc P W base spare held fuel t cs = some x) : cs.length = fs.size ∧ ∃ n, ∀ (j : Nat) (f : Field), fs[j]? = some f → ∃ v y, cs[j]? = some v ∧ DataW.trod enc P W base spare held n f.type [v] = some y := by
  obtain ⟨ys, n, _, _, hlen, hyl, hf⟩ := DataW.trod_struct ht h
  rw [hC] at hlen
  refine ⟨hlen, n, fun j f hj => ?_⟩
  obtain ⟨ho, hk⟩ := hone_of hone j f hj
  have hjl : j < cs.length := by rw [hlen]; exact (Array.getElem?_eq_some_iff.1 hj).1
  have hjy : j < ys.length := by rw [hyl]; exact (Array.getElem?_eq_some_iff.1 hj).1
  have h1 := hf j f hj
  rw [ho, hk, List.drop_eq_getElem_cons hjl, List.getElem?_eq_getElem hjy] at h1
  exact ⟨cs[j], ys[j], List.getElem?_eq_getElem hjl, h1⟩
theorem op_trod {fuel : Nat} {cs : List Value} {x : DataW H × List MemPlace} (h : DataW.trod enc Tryz.prog W base spare held fuel 42 cs = some x) :
    ∃ k wh n u s, cs = [.int .u8 k, .int .u8 wh, .int .i64 n, .int .i64 u, .string s] ∧ (0 ≤ k ∧ k < 256) ∧ (0 ≤ wh ∧ wh < 256) ∧ (-9223372036854775808 ≤ n ∧ n ≤ 9223372036854775807) ∧ (-9223372036854775808 ≤ u ∧ u ≤ 9223372036854775807) ∧ s.size ≤ 9223372036854775807 := by
  obtain ⟨hl, m, hf⟩ := trod_cells Tryz.underlying42 (by kernel_rfl) (by kernel_rfl) h
  obtain ⟨v0, y0, c0, t0⟩ := hf 0 _ rfl
  obtain ⟨v1, y1, c1, t1⟩ := hf 1 _ rfl
  obtain ⟨v2, y2, c2, t2⟩ := hf 2 _ rfl
  obtain ⟨v3, y3, c3, t3⟩ := hf 3 _ rfl
  obtain ⟨v4, y4, c4, t4⟩ := hf 4 _ rfl
  obtain ⟨n0, e0, _, g0⟩ := DataW.trod_int Tryz.underlying5 t0
  obtain ⟨n1, e1, _, g1⟩ := DataW.trod_int Tryz.underlying5 t1
  obtain ⟨n2, e2, _, g2⟩ := DataW.trod_int Tryz.underlying3 t2
  obtain ⟨n3, e3, _, g3⟩ := DataW.trod_int Tryz.underlying3 t3
  obtain ⟨n4, e4, _, g4⟩ := DataW.trod_string Tryz.underlying9 t4
  cases e0; cases e1; cases e2; cases e3; cases e4
  have hl : cs.length = 5 := hl
  refine ⟨n0, n1, n2, n3, n4, ?_, w8 g0, w8 g1, w64 g2, w64 g3, by unfold maxLen at g4; exact g4⟩
  match cs, hl with
  | [_, _, _, _, _], _ =>
    simp only [List.getElem?_cons_zero, List.getElem?_cons_succ, Option.some.injEq] at c0 c1 c2 c3 c4
    rw [c0, c1, c2, c3, c4]
theorem ops_arg {a : Option Addr} {len cap : Nat} {d : DataW H} {p : List MemPlace} (hs : ∀ x, a = some x → x.spot = none)
    (h : DataW.Trod enc Tryz.prog W base spare held 26 (.slice a len cap) d p) : ∃ l : List OpS, (∀ o ∈ l, OpOk o) ∧ l.length ≤ 9223372036854775807 ∧ Rep (S0 (fun _ _ => False) W) (.sl 5 (l.map opC)) (.slice a len cap) := by
  obtain ⟨fuel, hf⟩ := h
  rcases open_slice Tryz.underlying26 hf with ⟨hcs, _⟩ | ⟨x, l, c, m, n, D, Pl, hcs, _, hl, hm, hmm, _, hi⟩
  · simp [Value.cells] at hcs
    obtain ⟨rfl, rfl, rfl⟩ := hcs
    exact rep_ops_nil
  · simp [Value.cells] at hcs
    obtain ⟨rfl, rfl, rfl⟩ := hcs
    refine rep_ops (hs _ rfl) hl hm (fun i hil => ?_)
    have him : i < m := by rw [hmm]; split <;> omega
    obtain ⟨cs, hc, ht⟩ := hi i him
    rw [show Tryz.prog.cellsOf 42 = 5 by kernel_rfl] at hc
    obtain ⟨_, _, hat⟩ := World.cells?_some hc
    obtain ⟨k, wh, q, u, s, rfl, g0, g1, g2, g3, g4⟩ := op_trod ht
    have c0 := hat 0 (by omega)
    have c1 := hat 1 (by omega)
    have c2 := hat 2 (by omega)
    have c3 := hat 3 (by omega)
    have c4 := hat 4 (by omega)
    rw [add_add] at c0 c1 c2 c3 c4
    exact op_of c0 c1 c2 c3 c4 g0 g1 g2 g3 g4
theorem op_agg {P : Program} {w : World} {r : Reach} {b t : TypeId} {v : Value} {fs : Array Field} (ht : P.underlying t = some (.struct fs)) (h : Value.okWide P w r b t v) : ∃ cs, v = .agg cs := by
  obtain ⟨cs, h1, _⟩ := okWide_struct ht h; exact ⟨cs, h1⟩
set_option maxRecDepth 100000 in
theorem op_arg {r : Reach} {b0 : Nat} {v : Value} {d : DataW H} {p : List MemPlace} (hv : Value.okWide Tryz.prog W r b0 42 v) (h : DataW.Trod enc Tryz.prog W base spare held 42 v d p) :
    ∃ o : OpS, OpOk o ∧ v = .agg #[.int .u8 (o.kind : Int), .int .u8 (o.which : Int), .int .i64 (toI o.n), .int .i64 o.unit, .string ⟨o.serial.toArray⟩] := by
  obtain ⟨cs, rfl⟩ := op_agg Tryz.underlying42 hv
  obtain ⟨fuel, hf⟩ := h
  obtain ⟨k, wh, n, u, s, hcs, w0, w1, w2, w3, w4⟩ := op_trod hf
  have hcs : cs.toList = _ := hcs
  obtain ⟨k', rfl⟩ := Int.eq_ofNat_of_zero_le w0.1
  obtain ⟨wh', rfl⟩ := Int.eq_ofNat_of_zero_le w1.1
  refine ⟨⟨k', wh', n % 18446744073709551616, u, s.data.toList⟩, ⟨by show k' < 256; omega, by show wh' < 256; omega, by show 0 ≤ n % 18446744073709551616; omega, by show n % 18446744073709551616 < _; omega, w3.1, w3.2, w4⟩, ?_⟩
  show Value.agg cs = .agg #[.int .u8 (k' : Int), .int .u8 (wh' : Int), .int .i64 (toI (n % 18446744073709551616)), .int .i64 u, .string ⟨s.data.toList.toArray⟩]
  rw [toI_of w2.1 w2.2]
  congr 1
  apply Array.ext'
  rw [hcs]
theorem op_rep {S : Sit} (o : OpS) : Rep S (opV o) (.agg #[.int .u8 (o.kind : Int), .int .u8 (o.which : Int), .int .i64 (toI o.n), .int .i64 o.unit, .string ⟨o.serial.toArray⟩]) :=
  ⟨_, rfl, by simp [Value.oneCell'], _, _, rfl, rfl, _, _, rfl, rfl, _, _, rfl, rfl, _, _, rfl, rfl, _, _, rfl, rfl, rfl⟩
theorem u8s_arg {t e : TypeId} {a : Option Addr} {len cap : Nat} {d : DataW H} {p : List MemPlace} (ht : P.underlying t = some (.slice e)) (he : P.underlying e = some (.int .u8)) (hC : P.cellsOf e = 1) (hs : ∀ x, a = some x → x.spot = none)
    (h : DataW.Trod enc P W base spare held t (.slice a len cap) d p) : ∃ l : List UInt8, l.length ≤ 9223372036854775807 ∧ Rep (S0 (fun _ _ => False) W) (.sl 1 (bytesR l)) (.slice a len cap) := by
  obtain ⟨fuel, hf⟩ := h
  rcases open_slice ht hf with ⟨hcs, _⟩ | ⟨x, l, c, m, n, D, Pl, hcs, _, hl, hm, hmm, _, hi⟩
  · simp [Value.cells] at hcs
    obtain ⟨rfl, rfl, rfl⟩ := hcs
    exact ⟨[], by simp, LeV.nil 1 _ _ rfl⟩
  · simp [Value.cells] at hcs
    obtain ⟨rfl, rfl, rfl⟩ := hcs
    have hsp := hs _ rfl
    classical
    have each : ∀ i, i < len → ∃ b : UInt8, W.cell? (x.add i) = some (.int .u8 (b.toNat : Int)) := fun i hil => by
      have him : i < m := by rw [hmm]; split <;> omega
      obtain ⟨cs, hc, ht'⟩ := hi i him
      rw [hC, Nat.mul_one] at hc
      obtain ⟨_, hlen, hat⟩ := World.cells?_some hc
      have hcs : ∃ v, cs = [v] := by match cs, hlen with | [v], _ => exact ⟨v, rfl⟩
      obtain ⟨v, rfl⟩ := hcs
      obtain ⟨n0, e0, _, g0⟩ := DataW.trod_int he ht'
      cases e0
      obtain ⟨q1, q2⟩ := w8 g0
      obtain ⟨k, rfl⟩ := Int.eq_ofNat_of_zero_le q1
      have c0 := hat 0 (by omega)
      rw [add_add, Nat.add_zero] at c0
      refine ⟨UInt8.ofNat k, ?_⟩
      rw [c0]
      show some (Value.int .u8 (k : Int)) = _
      congr 3
      have : k < 256 := by omega
      simp [Nat.mod_eq_of_lt this]
    obtain ⟨f, hfn⟩ : ∃ f : Nat → UInt8, ∀ i, i < len → W.cell? (x.add i) = some (.int .u8 ((f i).toNat : Int)) :=
      ⟨fun i => if q : i < len then Classical.choose (each i q) else 0, fun i q => by simp only [q, dif_pos]; exact Classical.choose_spec (each i q)⟩
    have hml : len ≤ 9223372036854775807 := by unfold maxLen at hm; omega
    refine ⟨(List.range len).map f, by simpa using hml, some x, cap, by simp [bytesR], by simpa [bytesR] using hl, hm, (fun e => by cases e), bytesR_row _, bytesR_clean _, fun y hy => ?_⟩
    injection hy with hy; subst hy
    refine ⟨hsp, AtR_of (k := 1) (bytesR_row _) (fun i hi => ?_)⟩
    have hi' : i < len := by simpa [bytesR] using hi
    obtain ⟨b, off, sp⟩ := x
    simp only at hsp; subst hsp
    have hc := hfn i hi'
    have hadd : (⟨b, off, none⟩ : Addr).add i = ⟨b, off + i, none⟩ := by simp [Addr.add]
    rw [hadd] at hc
    simp only [bytesR, List.getElem_map, List.getElem_range, Nat.mul_one]
    exact ⟨⟨fun q => q, _, hc, rfl, rfl⟩, trivial⟩
end
end Go.Proofs.YtldkmclfhjcicaaGreatDoor

/- Arguments that are slices of structs, catalogs, entries, as the value machine takes them. -/
namespace Go.Proofs.YtldkmclfhjcicaaGreatDoor
open Go.RowKit
set_option linter.unusedVariables false
theorem list_of {α : Type} {p : Nat → α → Prop} : ∀ n : Nat, (∀ i, i < n → ∃ x, p i x) → ∃ l : List α, l.length = n ∧ ∀ (i : Nat) (h : i < l.length), p i l[i]
  | 0, _ => ⟨[], rfl, fun i h => by simp at h⟩
  | n + 1, h => by
    obtain ⟨l, hl, hp⟩ := list_of n (fun i hi => h i (by omega))
    obtain ⟨x, hx⟩ := h n (by omega)
    refine ⟨l ++ [x], by simp [hl], fun i hi => ?_⟩
    have hi' : i < n + 1 := by simpa [hl] using hi
    by_cases e : i < l.length
    · rw [List.getElem_append_left e]; exact hp i e
    · have : i = n := by omega
      subst this
      simp only [List.getElem_append_right (Nat.le_of_not_lt e), hl, Nat.sub_self, List.getElem_cons_zero]
      exact hx
section
open Go.ChangeShapes Go.WideShapes Go.Deep
variable {H : Type} {enc : TypeId × Value → H} {P : Program} {W : World} {base : Nat} {spare : Nat → Bool} {held : Bool}
theorem rows_arg {α : Type} (f : α → List V) (vs : α → List Value) {k : Nat} {t e : TypeId} (ht : P.underlying t = some (.slice e)) (hC : P.cellsOf e = k) (hlen : ∀ x, (f x).length = k) (hcl : ∀ x, V.refsL (f x) = []) (hrep : ∀ S x, RepL S (f x) (vs x)) (hone : ∀ x, ∀ u ∈ vs x, u.oneCell' = true)
    (rd : ∀ fuel cs y, DataW.trod enc P W base spare held fuel e cs = some y → ∃ x, cs = vs x) {a : Option Addr} {len cap : Nat} (hs : ∀ x, a = some x → x.spot = none) {fuel : Nat} {y : DataW H × List MemPlace} (h : DataW.trod enc P W base spare held fuel t [.slice a len cap] = some y) :
    ∃ l : List α, l.length ≤ 9223372036854775807 ∧ Rep (S0 (fun _ _ => False) W) (.sl k (l.map f)) (.slice a len cap) := by
  have hrow : ∀ (l : List α), ∀ r ∈ l.map f, r.length = k := fun l r hr => by obtain ⟨x, _, rfl⟩ := List.mem_map.1 hr; exact hlen x
  rcases open_slice ht h with ⟨hcs, _⟩ | ⟨x, l, c, m, n, D, Pl, hcs, _, hl, hm, hmm, _, hi⟩
  · simp at hcs
    obtain ⟨rfl, rfl, rfl⟩ := hcs
    exact ⟨[], by simp, LeV.nil k _ _ rfl⟩
  · simp at hcs
    obtain ⟨rfl, rfl, rfl⟩ := hcs
    have hsp := hs _ rfl
    obtain ⟨L, hL, hp⟩ := list_of (p := fun i z => ∀ j, j < k → W.cell? (x.add (i * k + j)) = (vs z)[j]?) len (fun i hil => by
      have him : i < m := by rw [hmm]; split <;> omega
      obtain ⟨cs, hc, ht'⟩ := hi i him
      rw [hC] at hc
      obtain ⟨_, _, hat⟩ := World.cells?_some hc
      obtain ⟨z, rfl⟩ := rd _ _ _ ht'
      refine ⟨z, fun j hj => ?_⟩
      have := hat j hj
      rw [add_add] at this; exact this)
    have hml : len ≤ 9223372036854775807 := by unfold maxLen at hm; omega
    refine ⟨L, by omega, some x, cap, by simp [hL], by simpa [hL] using hl, hm, (fun e => by cases e), hrow L, (fun r hr => by obtain ⟨z, _, rfl⟩ := List.mem_map.1 hr; exact hcl z), fun y hy => ?_⟩
    injection hy with hy; subst hy
    refine ⟨hsp, AtR_of (k := k) (hrow L) (fun i hi => ?_)⟩
    have hi' : i < L.length := by simpa using hi
    rw [List.getElem_map]
    refine AtL.of_get fun j hj => ?_
    have hjk : j < k := by rw [← hlen L[i]]; exact hj
    obtain ⟨u, hu, hru⟩ := RepL.get (hrep (S0 (fun _ _ => False) W) L[i]) j hj
    have hc := hp i hi' j hjk
    obtain ⟨b, off, sp⟩ := x
    simp only at hsp; subst hsp
    have hadd : (⟨b, off, none⟩ : Addr).add (i * k + j) = ⟨b, off + i * k + j, none⟩ := by simp [Addr.add, Nat.add_assoc]
    rw [hadd, hu] at hc
    exact ⟨fun q => q, u, hc, hone _ u (List.mem_of_getElem? hu), hru⟩
theorem cell_spot {r : Reach} {b t e : TypeId} {a : Option Addr} {len cap : Nat} (ht : P.underlying t = some (.slice e)) (h : Cell.okWide P W r b t (.slice a len cap)) : ∀ x, a = some x → x.spot = none := by
  rintro x rfl
  simp only [Cell.okWide, ht, Cell.ok] at h
  exact h.2.2.2.1
def entL4 (e : Ent) : List Value := [.string ⟨e.name.toArray⟩, .int .i64 e.unit, .string ⟨e.serial.toArray⟩, .int .i64 e.file]
def grpL2 (g : Grp) : List Value := [.string ⟨g.base.toArray⟩, .int .i64 g.limit]
theorem ent_trod {fuel : Nat} {cs : List Value} {x : DataW H × List MemPlace} (h : DataW.trod enc Tryz.prog W base spare held fuel 45 cs = some x) : ∃ e : Ent, cs = entL4 e := by
  obtain ⟨hl, m, hf⟩ := trod_cells Tryz.underlying45 (by kernel_rfl) (by kernel_rfl) h
  obtain ⟨v0, y0, c0, t0⟩ := hf 0 _ rfl
  obtain ⟨v1, y1, c1, t1⟩ := hf 1 _ rfl
  obtain ⟨v2, y2, c2, t2⟩ := hf 2 _ rfl
  obtain ⟨v3, y3, c3, t3⟩ := hf 3 _ rfl
  obtain ⟨n0, e0, _, g0⟩ := DataW.trod_string Tryz.underlying9 t0
  obtain ⟨n1, e1, _, g1⟩ := DataW.trod_int Tryz.underlying3 t1
  obtain ⟨n2, e2, _, g2⟩ := DataW.trod_string Tryz.underlying9 t2
  obtain ⟨n3, e3, _, g3⟩ := DataW.trod_int Tryz.underlying3 t3
  cases e0; cases e1; cases e2; cases e3
  have hl : cs.length = 4 := hl
  refine ⟨⟨n0.data.toList, n1, n2.data.toList, n3⟩, ?_⟩
  match cs, hl with
  | [_, _, _, _], _ =>
    simp only [List.getElem?_cons_zero, List.getElem?_cons_succ, Option.some.injEq] at c0 c1 c2 c3
    rw [c0, c1, c2, c3]; rfl
theorem grp_trod {fuel : Nat} {cs : List Value} {x : DataW H × List MemPlace} (h : DataW.trod enc Tryz.prog W base spare held fuel 54 cs = some x) : ∃ g : Grp, cs = grpL2 g := by
  obtain ⟨hl, m, hf⟩ := trod_cells Tryz.underlying54 (by kernel_rfl) (by kernel_rfl) h
  obtain ⟨v0, y0, c0, t0⟩ := hf 0 _ rfl
  obtain ⟨v1, y1, c1, t1⟩ := hf 1 _ rfl
  obtain ⟨n0, e0, _, g0⟩ := DataW.trod_string Tryz.underlying9 t0
  obtain ⟨n1, e1, _, g1⟩ := DataW.trod_int Tryz.underlying3 t1
  cases e0; cases e1
  have hl : cs.length = 2 := hl
  refine ⟨⟨n0.data.toList, n1⟩, ?_⟩
  match cs, hl with
  | [_, _], _ =>
    simp only [List.getElem?_cons_zero, List.getElem?_cons_succ, Option.some.injEq] at c0 c1
    rw [c0, c1]; rfl
theorem ent_repL (S : Sit) (e : Ent) : RepL S (entC e) (entL4 e) := ⟨_, _, rfl, rfl, _, _, rfl, rfl, _, _, rfl, rfl, _, _, rfl, rfl, rfl⟩
theorem grp_repL (S : Sit) (g : Grp) : RepL S (grpC g) (grpL2 g) := ⟨_, _, rfl, rfl, _, _, rfl, rfl, rfl⟩
set_option maxRecDepth 100000 in
theorem ent_arg {r : Reach} {b0 : Nat} {v : Value} {d : DataW H} {p : List MemPlace} (hv : Value.okWide Tryz.prog W r b0 45 v) (h : DataW.Trod enc Tryz.prog W base spare held 45 v d p) : ∃ e : Ent, v = .agg (entL4 e).toArray := by
  obtain ⟨cs, rfl⟩ := op_agg Tryz.underlying45 hv
  obtain ⟨fuel, hf⟩ := h
  obtain ⟨e, he⟩ := ent_trod hf
  have he : cs.toList = entL4 e := he
  exact ⟨e, by rw [← he]⟩
theorem ent_vrep {S : Sit} (e : Ent) : Rep S (entV e) (.agg (entL4 e).toArray) := ⟨_, rfl, by simp [entL4, Value.oneCell'], ent_repL S e⟩
set_option maxRecDepth 100000 in
theorem cat_arg {r : Reach} {b0 : Nat} {v : Value} {d : DataW H} {p : List MemPlace} (hv : Value.okWide Tryz.prog W r b0 25 v) (h : DataW.Trod enc Tryz.prog W base spare held 25 v d p) :
    ∃ (ve vg : Value) (c : Cat), v = .agg #[ve, vg] ∧ c.es.length ≤ 9223372036854775807 ∧ c.gs.length ≤ 9223372036854775807 ∧ Rep (S0 (fun _ _ => False) W) (catV c) (.agg #[ve, vg]) := by
  simp only [Value.okWide, Tryz.underlying25] at hv
  obtain ⟨cs, rfl, _, ts, hts, _, hrow⟩ := hv
  have hts2 : Tryz.prog.cellTypes Tryz.prog.depth 25 = some [22, 23] := by kernel_rfl
  rw [hts2] at hts; injection hts with hts; subst hts
  obtain ⟨fuel, hf⟩ := h
  have hf : DataW.trod enc Tryz.prog W base spare held fuel 25 cs.toList = some _ := hf
  obtain ⟨hl, m, hfs⟩ := trod_cells Tryz.underlying25 (by kernel_rfl) (by kernel_rfl) hf
  obtain ⟨v0, y0, c0, t0⟩ := hfs 0 _ rfl
  obtain ⟨v1, y1, c1, t1⟩ := hfs 1 _ rfl
  have hl : cs.toList.length = 2 := hl
  have hcs : cs = #[v0, v1] := by
    apply Array.ext'
    match h : cs.toList, hl with
    | [_, _], _ =>
      rw [h] at c0 c1
      simp only [List.getElem?_cons_zero, List.getElem?_cons_succ, Option.some.injEq] at c0 c1
      rw [c0, c1]
  subst hcs
  obtain ⟨u0, k0, w0⟩ := hrow 0 v0 rfl
  obtain ⟨u1, k1, w1⟩ := hrow 1 v1 rfl
  injection k0 with k0; subst k0
  injection k1 with k1; subst k1
  have s0 : ∃ a len cap, v0 = .slice a len cap := by
    rcases open_slice Tryz.underlying22 t0 with ⟨q, _⟩ | ⟨a, len, cap, _, _, _, _, q, _⟩
    · injection q with q; exact ⟨_, _, _, q⟩
    · injection q with q; exact ⟨_, _, _, q⟩
  have s1 : ∃ a len cap, v1 = .slice a len cap := by
    rcases open_slice Tryz.underlying23 t1 with ⟨q, _⟩ | ⟨a, len, cap, _, _, _, _, q, _⟩
    · injection q with q; exact ⟨_, _, _, q⟩
    · injection q with q; exact ⟨_, _, _, q⟩
  obtain ⟨a0, l0, p0, rfl⟩ := s0
  obtain ⟨a1, l1, p1, rfl⟩ := s1
  obtain ⟨es, e1, e2⟩ := rows_arg (k := 4) entC entL4 Tryz.underlying22 (by kernel_rfl) (fun _ => rfl) (fun _ => rfl) ent_repL (fun x u hu => by simp [entL4] at hu; rcases hu with rfl | rfl | rfl | rfl <;> rfl) (fun _ _ _ h => ent_trod h) (cell_spot Tryz.underlying22 w0) t0
  obtain ⟨gs, g1, g2⟩ := rows_arg (k := 2) grpC grpL2 Tryz.underlying23 (by kernel_rfl) (fun _ => rfl) (fun _ => rfl) grp_repL (fun x u hu => by simp [grpL2] at hu; rcases hu with rfl | rfl <;> rfl) (fun _ _ _ h => grp_trod h) (cell_spot Tryz.underlying23 w1) t1
  refine ⟨_, _, ⟨es, gs⟩, rfl, e1, g1, [_, _], rfl, ?_, _, _, rfl, e2, _, _, rfl, g2, rfl⟩
  intro u hu
  simp at hu
  rcases hu with rfl | rfl <;> rfl
end
end Go.Proofs.YtldkmclfhjcicaaGreatDoor

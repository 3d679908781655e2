import Derived.WalkKit
import Derived.Handy
import Derived.WalkLawsBesides
import Derived.WalkSpells
import Derived.Laws.BytesArg
import Derived.Deep.Draws
import Derived.Deep.AppendLies
import Derived.Maps.AppendAt
import Derived.Laws.CopyRow
import Derived.Lib.SliceRun
import Derived.Lib.Overlaps
import Derived.Lib.AppendZerosOnto
import Derived.Deep.QuietTactic
import Derived.BigQuiet
import Derived.Deep.RegionHeld3

/- Frames and rows: words of our own on worlds; no program in sight. -/
namespace Go.Proofs.YtedbbinlcdgkoaaGreatDoor
open Go.RowKit

theorem hid {p : Prop} (h : p) : Hid p := h

structure Chg (L : List Nat) (w w' : World) : Prop where
  os : w'.os = w.os
  tape : w'.tape = w.tape
  output : w'.output = w.output
  size : w.heap.size ≤ w'.heap.size
  block : ∀ k, k < w.heap.size → k ∉ L → w'.heap[k]? = w.heap[k]?

theorem Chg.refl (L : List Nat) (w : World) : Chg L w w := ⟨rfl, rfl, rfl, Nat.le_refl _, fun _ _ _ => rfl⟩
theorem Chg.trans {L : List Nat} {a b c : World} (h : Chg L a b) (k : Chg L b c) : Chg L a c :=
  ⟨k.os.trans h.os, k.tape.trans h.tape, k.output.trans h.output, Nat.le_trans h.size k.size,
   fun i hi hn => (k.block i (Nat.lt_of_lt_of_le hi h.size) hn).trans (h.block i hi hn)⟩
theorem Chg.weaken {L M : List Nat} {a b : World} (h : Chg L a b) (hs : ∀ k, k < a.heap.size → k ∈ L → k ∈ M) : Chg M a b :=
  ⟨h.os, h.tape, h.output, h.size, fun i hi hn => h.block i hi (fun e => hn (hs i hi e))⟩
theorem Chg.alloc (L : List Nat) (w : World) (o : Obj) : Chg L w (w.alloc o) := ⟨rfl, rfl, rfl, by simp, fun k hk _ => Below.heap_alloc w o k hk⟩
theorem Chg.drew (L : List Nat) (w : World) : Chg L w w.drew := ⟨rfl, rfl, rfl, Nat.le_refl _, fun _ _ _ => rfl⟩
theorem Chg.setCell {L : List Nat} (w : World) {p : Addr} (hp : p.block ∈ L ∨ w.heap.size ≤ p.block) (u : Value) : Chg L w (w.setCell p u) :=
  ⟨rfl, rfl, rfl, by simp, fun k hk hn => Below.heap_setCell _ _ _ _ (fun e => by rcases hp with hp | hp; exact hn (e ▸ hp); omega)⟩
theorem Chg.of_below {w w' : World} (h : Below w.heap.size w w') (L : List Nat) : Chg L w w' :=
  ⟨h.os, h.tape, h.output, h.size, fun k hk _ => h.block k hk⟩
theorem Chg.of_grownBy {w w' : World} {row : Option Nat} (h : w.grownBy w' row) {L : List Nat} (hr : ∀ k, row = some k → k ∈ L ∨ w.heap.size ≤ k) : Chg L w w' :=
  ⟨h.os, h.tape, h.output, h.size, fun k hk hn => h.block k hk (fun e => by rcases hr k e.symm with h1 | h1; exact hn h1; omega)⟩
theorem Chg.below {L : List Nat} {w w' : World} (h : Chg L w w') {B : Nat} (hB : B ≤ w.heap.size) (hL : ∀ k ∈ L, B ≤ k) : Below B w w' :=
  ⟨h.os, h.tape, h.output, h.size, fun k hk => h.block k (by omega) (fun e => by have := hL k e; omega)⟩
theorem Chg.nil_below {w w' : World} (h : Chg [] w w') : Below w.heap.size w w' := h.below (Nat.le_refl _) (by simp)
theorem Chg.cell {L : List Nat} {w w' : World} (h : Chg L w w') {a : Addr} {v : Value} (hc : w.cell? a = some v) (hn : a.block ∉ L) : w'.cell? a = some v :=
  (World.cell?_of_block (h.block a.block (World.block_lt_of_cell? w a hc) hn)).trans hc
theorem Chg.heap {L : List Nat} {w w' : World} (h : Chg L w w') {k : Nat} {o : Obj} (hc : w.heap[k]? = some o) (hn : k ∉ L) : w'.heap[k]? = some o :=
  (h.block k (lt_of_block hc) hn).trans hc
theorem Chg.then {L M : List Nat} {a b c : World} (h : Chg L a b) (k : Chg M b c) (hM : ∀ i, i ∈ M → i < a.heap.size → i ∈ L) : Chg L a c :=
  ⟨k.os.trans h.os, k.tape.trans h.tape, k.output.trans h.output, Nat.le_trans h.size k.size,
   fun i hi hn => (k.block i (Nat.lt_of_lt_of_le hi h.size) (fun e => hn (hM i e hi))).trans (h.block i hi hn)⟩

def eb (x : UInt8) : Value := .int .u8 (x.toNat : Int)
def Reads (w : World) (v : Value) (xs : List UInt8) : Prop :=
  ∃ a cap, v = .slice a xs.length cap ∧ xs.length ≤ cap ∧ cap ≤ maxLen ∧ (a = none → xs = []) ∧
    ∀ x, a = some x → x.spot = none ∧ ∀ i (h : i < xs.length), w.cell? ⟨x.block, x.off + i, none⟩ = some (eb xs[i])

theorem Reads.keep {w w' : World} {v : Value} {xs : List UInt8} (h : Reads w v xs) {L : List Nat} (hc : Chg L w w') (hL : ∀ k ∈ L, w.heap.size ≤ k) : Reads w' v xs := by
  obtain ⟨a, cap, hv, h1, h2, h3, h4⟩ := h
  refine ⟨a, cap, hv, h1, h2, h3, fun x hx => ⟨(h4 x hx).1, fun i hi => ?_⟩⟩
  have hcell := (h4 x hx).2 i hi
  refine hc.cell hcell (fun e => ?_)
  have h5 := hL _ e
  have h6 := World.block_lt_of_cell? w _ hcell
  simp only at h5 h6
  omega

theorem Reads.below {w w' : World} {v : Value} {xs : List UInt8} (h : Reads w v xs) (hb : Below w.heap.size w w') : Reads w' v xs :=
  h.keep (Chg.of_below hb []) (by simp)


theorem ofNat_toNat_u8 (x : UInt8) : UInt8.ofNat ((x.toNat : Int)).toNat = x := by simp
theorem strOfNums_map (xs : List UInt8) : strOfNums (xs.map fun x => (x.toNat : Int)) = ⟨xs.toArray⟩ := by
  simp only [strOfNums, List.map_map]
  congr 2
  conv => rhs; rw [← List.map_id xs]
  exact List.map_congr_left fun x _ => ofNat_toNat_u8 x

theorem Reads.str {P : Program} {w : World} {v : Value} {xs : List UInt8} (h : Reads w v xs) (src dst e : TypeId) (hs : P.underlying src = some (.slice e)) (he : P.underlying e = some (.int .u8)) (hd : P.underlying dst = some .string) :
    (convert src dst v).run P w = .ok (.string ⟨xs.toArray⟩) w := by
  obtain ⟨a, cap, rfl, _, _, h3, h4⟩ := h
  cases a with
  | none =>
    have := h3 rfl; subst this
    exact run_convert_bytes_nil w src e hs he _ _ dst hd
  | some x =>
    obtain ⟨hx, hc⟩ := h4 x rfl
    obtain ⟨b, off, spot⟩ := x
    simp only at hx; subst hx
    rw [run_convert_bytes_arg w src e hs he b off xs.length cap (xs.map fun x => (x.toNat : Int)) (by simp) (fun i hi => by
      rw [hc i hi]; simp [eb, hi]) dst hd, strOfNums_map]

theorem Reads.of_own {w : World} {base e : Nat} {v : Value} {xs : List UInt8} (h : w.ownsRow base e 1 v xs.length (xs.map eb)) : Reads w v xs := by
  rcases h.2 with ⟨rfl, hn⟩ | ⟨g, cap, cur, rfl, _, hg, hnc, hcm, _, htake⟩
  · have : xs = [] := List.eq_nil_of_length_eq_zero hn
    subst this
    exact ⟨none, 0, rfl, Nat.le_refl _, Nat.zero_le _, (fun _ => rfl), (fun x hx => by cases hx)⟩
  · refine ⟨some ⟨g, 0, none⟩, cap, rfl, hnc, hcm, (fun h => by cases h), fun x hx => ?_⟩
    cases hx
    refine ⟨rfl, fun i hi => ?_⟩
    have h1 : (xs.map eb)[i]? = some (eb xs[i]) := by simp [hi]
    rw [← htake, List.getElem?_take] at h1
    rw [Nat.zero_add, cell_of_row w g i cur e (0, 0) hg]
    split at h1
    · simpa using h1
    · cases h1

theorem Reads.nil (w : World) : Reads w (.slice none 0 0) [] := ⟨none, 0, rfl, Nat.le_refl _, Nat.zero_le _, (fun _ => rfl), (fun x hx => by cases hx)⟩

theorem al_new {w : World} {o : Obj} {k : Nat} (h : k = w.heap.size) : (w.alloc o).heap[k]? = some o := by subst h; exact heap_alloc_new w o
theorem al_old {w : World} {o o' : Obj} {k : Nat} (h : w.heap[k]? = some o') : (w.alloc o).heap[k]? = some o' := (Below.heap_alloc w o k (lt_of_block h)).trans h

end Go.Proofs.YtedbbinlcdgkoaaGreatDoor

/- Rows of bytes, more. -/
namespace Go.Proofs.YtedbbinlcdgkoaaGreatDoor
open Go.RowKit

def bN (b : List UInt8) (i : Nat) : Nat := (b.getD i 0).toNat
theorem bN_get (b : List UInt8) (i : Nat) (h : i < b.length) : bN b i = (b[i]).toNat := by
  unfold bN; rw [List.getD_eq_getElem?_getD, List.getElem?_eq_getElem h]; rfl

theorem Reads.parts {w : World} {v : Value} {xs : List UInt8} (h : Reads w v xs) {L : Nat} (hL : xs.length = L) :
    (xs = [] ∧ L = 0 ∧ ∃ a cap, v = .slice a 0 cap) ∨
    ∃ bb off cap, v = .slice (some ⟨bb, off, none⟩) L cap ∧ 1 ≤ L ∧ L ≤ cap ∧ cap ≤ 9223372036854775807 ∧ Hid (∀ i, i < L → w.cell? ⟨bb, off + i, none⟩ = some (.int .u8 (bN xs i : Nat))) := by
  subst hL
  obtain ⟨a, cap, rfl, h1, h2, h3, h4⟩ := h
  by_cases h0 : xs = []
  · subst h0; exact .inl ⟨rfl, rfl, a, cap, rfl⟩
  · cases a with
    | none => exact absurd (h3 rfl) h0
    | some x =>
      obtain ⟨hs, hc⟩ := h4 x rfl
      obtain ⟨bb, off, spot⟩ := x
      simp only at hs; subst hs
      refine .inr ⟨bb, off, cap, rfl, List.length_pos_iff.2 h0, h1, by unfold maxLen at h2; omega, fun i hi => ?_⟩
      rw [hc i hi, bN_get xs i hi]; rfl

theorem Reads.shape {w : World} {v : Value} {xs : List UInt8} (h : Reads w v xs) {L : Nat} (hL : xs.length = L) : ∃ a cap, v = .slice a L cap := by
  subst hL; obtain ⟨a, cap, hv, _⟩ := h; exact ⟨a, cap, hv⟩

theorem Chg.drewN {L : List Nat} {w w' : World} (h : Chg L w w') (n : Nat) : Chg L w (w'.drewN n) := ⟨h.os, h.tape, h.output, h.size, h.block⟩
end Go.Proofs.YtedbbinlcdgkoaaGreatDoor

/- Slices of one-cell elements that are read, and appends to a slice of the call's own. -/
namespace Go.Proofs.YtedbbinlcdgkoaaGreatDoor
open Go.RowKit

def ReadsV (w : World) (v : Value) (xs : List Value) : Prop :=
  ∃ a cap, v = .slice a xs.length cap ∧ xs.length ≤ cap ∧ cap ≤ maxLen ∧ (a = none → xs = []) ∧
    ∀ x, a = some x → x.spot = none ∧ ∀ i (h : i < xs.length), w.cell? ⟨x.block, x.off + i, none⟩ = some xs[i]

theorem ReadsV.keep {w w' : World} {v : Value} {xs : List Value} (h : ReadsV w v xs) {L : List Nat} (hc : Chg L w w') (hL : ∀ k ∈ L, w.heap.size ≤ k) : ReadsV w' v xs := by
  obtain ⟨a, cap, hv, h1, h2, h3, h4⟩ := h
  refine ⟨a, cap, hv, h1, h2, h3, fun x hx => ⟨(h4 x hx).1, fun i hi => ?_⟩⟩
  have hcell := (h4 x hx).2 i hi
  refine hc.cell hcell (fun e => ?_)
  have h5 := hL _ e
  have h6 := World.block_lt_of_cell? w _ hcell
  simp only at h5 h6
  omega

theorem ReadsV.of_own {w : World} {base e : Nat} {v : Value} {xs : List Value} (h : w.ownsRow base e 1 v xs.length xs) : ReadsV w v xs := by
  rcases h.2 with ⟨rfl, hn⟩ | ⟨g, cap, cur, rfl, _, hg, hnc, hcm, _, htake⟩
  · have : xs = [] := List.eq_nil_of_length_eq_zero hn
    subst this
    exact ⟨none, 0, rfl, Nat.le_refl _, Nat.zero_le _, (fun _ => rfl), (fun x hx => by cases hx)⟩
  · refine ⟨some ⟨g, 0, none⟩, cap, rfl, hnc, hcm, (fun h => by cases h), fun x hx => ?_⟩
    cases hx
    refine ⟨rfl, fun i hi => ?_⟩
    have h1 : (cur.toList.take (xs.length * 1))[i]? = some xs[i] := by rw [htake]; simp [hi]
    rw [List.getElem?_take] at h1
    rw [Nat.zero_add, cell_of_row w g i cur e (0, 0) hg]
    split at h1
    · simpa using h1
    · cases h1

def en (d : Nat) : Value := .int .i64 (d : Int)

theorem ReadsV.parts {w : World} {v : Value} {l : List Nat} (h : ReadsV w v (l.map en)) {L : Nat} (hL : l.length = L) :
    (l = [] ∧ L = 0 ∧ ∃ a cap, v = .slice a 0 cap) ∨
    ∃ bb off cap, v = .slice (some ⟨bb, off, none⟩) L cap ∧ 1 ≤ L ∧ L ≤ cap ∧ cap ≤ 9223372036854775807 ∧ Hid (∀ i, i < L → w.cell? ⟨bb, off + i, none⟩ = some (.int .i64 (l.getD i 0 : Nat))) := by
  subst hL
  obtain ⟨a, cap, hv, h1, h2, h3, h4⟩ := h
  rw [List.length_map] at hv h1
  by_cases h0 : l = []
  · subst h0; exact .inl ⟨rfl, rfl, a, cap, hv⟩
  · cases a with
    | none => exact absurd (by simpa using h3 rfl) h0
    | some x =>
      obtain ⟨hs, hc⟩ := h4 x rfl
      obtain ⟨bb, off, spot⟩ := x
      simp only at hs; subst hs
      refine .inr ⟨bb, off, cap, hv, List.length_pos_iff.2 h0, h1, by unfold maxLen at h2; omega, fun i hi => ?_⟩
      rw [hc i (by simpa using hi), List.getD_eq_getElem?_getD, List.getElem?_eq_getElem hi]; simp [en]

def own (v : Value) : List Nat := v.ownBlock.toList

end Go.Proofs.YtedbbinlcdgkoaaGreatDoor

/- An append at a step of a region that draws its order. -/
namespace Go.Proofs.YtedbbinlcdgkoaaGreatDoor
open Go.RowKit

end Go.Proofs.YtedbbinlcdgkoaaGreatDoor

/- More on slices of the call's own: a store at an index, an append of a slice that came in. -/
namespace Go.Proofs.YtedbbinlcdgkoaaGreatDoor
open Go.RowKit

end Go.Proofs.YtedbbinlcdgkoaaGreatDoor

/- Appending a slice that is read, nil or not, to one of the call's own. -/
namespace Go.Proofs.YtedbbinlcdgkoaaGreatDoor
open Go.RowKit

end Go.Proofs.YtedbbinlcdgkoaaGreatDoor

/- Slices whose elements take k cells: read, owned, appended to; no program in sight. -/
namespace Go.Proofs.YtedbbinlcdgkoaaGreatDoor
open Go.RowKit

theorem add_at (b o i : Nat) : (⟨b, o, none⟩ : Addr).add i = ⟨b, o + i, none⟩ := by unfold Addr.add; split <;> simp_all

def RdK (w : World) (k : Nat) (v : Value) (n : Nat) (xs : List Value) : Prop :=
  ∃ a cap, v = .slice a n cap ∧ n ≤ cap ∧ cap ≤ maxLen ∧ xs.length = n * k ∧ (a = none → n = 0) ∧
    ∀ x, a = some x → x.spot = none ∧ ∀ i u, xs[i]? = some u → w.cell? ⟨x.block, x.off + i, none⟩ = some u

section
variable {w w' : World} {k n : Nat} {v : Value} {xs : List Value}
theorem RdK.keep (h : RdK w k v n xs) {L : List Nat} (hc : Chg L w w') (hL : ∀ k ∈ L, w.heap.size ≤ k) : RdK w' k v n xs := by
  obtain ⟨a, cap, hv, h1, h2, h3, h4, h5⟩ := h
  refine ⟨a, cap, hv, h1, h2, h3, h4, fun x hx => ⟨(h5 x hx).1, fun i u hi => ?_⟩⟩
  have hcell := (h5 x hx).2 i u hi
  refine hc.cell hcell (fun e => ?_)
  have g1 := hL _ e
  have g2 := World.block_lt_of_cell? w _ hcell
  simp only at g1 g2
  omega
theorem RdK.drew (h : RdK w k v n xs) : RdK w.drew k v n xs := h
theorem RdK.drewN (h : RdK w k v n xs) (m : Nat) : RdK (w.drewN m) k v n xs := h
theorem RdK.nil (w : World) (k : Nat) : RdK w k (.slice none 0 0) 0 [] := ⟨none, 0, rfl, Nat.le_refl _, Nat.zero_le _, by simp, (fun _ => rfl), (fun x hx => by cases hx)⟩
theorem RdK.of_own {base : Nat} {e : TypeId} (h : w.ownsRow base e k v n xs) : RdK w k v n xs := by
  rcases h.2 with ⟨rfl, hn⟩ | ⟨g, cap, cur, rfl, _, hg, hnc, hcm, _, htake⟩
  · subst hn
    have : xs = [] := List.eq_nil_of_length_eq_zero (by simpa using h.1)
    subst this
    exact RdK.nil w k
  · refine ⟨some ⟨g, 0, none⟩, cap, rfl, hnc, hcm, h.1, (fun h => by cases h), fun x hx => ?_⟩
    cases hx
    refine ⟨rfl, fun i u hi => ?_⟩
    rw [← htake, List.getElem?_take] at hi
    simp only
    rw [Nat.zero_add, cell_of_row w g i cur e (0, 0) hg]
    split at hi
    · simpa using hi
    · cases hi
theorem RdK.shape (h : RdK w k v n xs) : ∃ a cap, v = .slice a n cap := by obtain ⟨a, cap, hv, _⟩ := h; exact ⟨a, cap, hv⟩
theorem RdK.length (h : RdK w k v n xs) : xs.length = n * k := by obtain ⟨a, cap, _, h1, h2, h3, _⟩ := h; exact h3
theorem RdK.parts (h : RdK w k v n xs) : (n = 0 ∧ ∃ a cap, v = .slice a 0 cap) ∨
    ∃ bb off cap, v = .slice (some ⟨bb, off, none⟩) n cap ∧ 1 ≤ n ∧ n ≤ cap ∧ cap ≤ 9223372036854775807 ∧ Hid (∀ i u, xs[i]? = some u → w.cell? ⟨bb, off + i, none⟩ = some u) := by
  obtain ⟨a, cap, rfl, h1, h2, h3, h4, h5⟩ := h
  rcases Nat.eq_zero_or_pos n with rfl | hn
  · exact .inl ⟨rfl, a, cap, rfl⟩
  · cases a with
    | none => exact absurd (h4 rfl) (by omega)
    | some x =>
      obtain ⟨hs, hc⟩ := h5 x rfl
      obtain ⟨bb, off, spot⟩ := x
      simp only at hs; subst hs
      exact .inr ⟨bb, off, cap, rfl, hn, h1, by unfold maxLen at h2; omega, hc⟩

variable {B : Nat} {e : TypeId}
theorem ownK_ge (h : w.ownsRow B e k v n xs) : ∀ j ∈ own v, B ≤ j := by
  intro j hj
  exact (h.lt j (by simpa [own] using hj)).1
theorem ownK_keep (h : w.ownsRow B e k v n xs) {L : List Nat} (hc : Chg L w w') (hn : ∀ j ∈ own v, j ∉ L) : w'.ownsRow B e k v n xs := by
  refine ⟨h.1, ?_⟩
  rcases h.2 with h2 | ⟨g, cap, cur, rfl, hb, hg, rest⟩
  · exact .inl h2
  · exact .inr ⟨g, cap, cur, rfl, hb, hc.heap hg (hn g (by simp [own, Value.ownBlock])), rest⟩
theorem ownK_keep1 (h : w.ownsRow B e k v n xs) (hc : Chg [] w w') : w'.ownsRow B e k v n xs := ownK_keep h hc (by simp)
theorem ownK_base {B' : Nat} (h : w.ownsRow B e k v n xs) (hB : B' ≤ B) : w.ownsRow B' e k v n xs := by
  refine ⟨h.1, ?_⟩
  rcases h.2 with h2 | ⟨g, cap, cur, rfl, hb, rest⟩
  · exact .inl h2
  · exact .inr ⟨g, cap, cur, rfl, Nat.le_trans hB hb, rest⟩
end

end Go.Proofs.YtedbbinlcdgkoaaGreatDoor

/- Runs of copy, clear and append at elements of k cells, and what insertion and deletion leave; no program in sight. -/
namespace Go.Proofs.YtedbbinlcdgkoaaGreatDoor
open Go.RowKit
set_option linter.unusedVariables false
set_option linter.unusedSimpArgs false

def spl (l : List Value) (o : Nat) (cs : List Value) : List Value := l.take o ++ cs ++ l.drop (o + cs.length)
theorem spl_mid (A M R cs : List Value) (h : M.length = cs.length) (o : Nat) (ho : o = A.length) : spl (A ++ M ++ R) o cs = A ++ cs ++ R := by
  subst ho
  unfold spl
  rw [List.append_assoc A M R, List.take_left, ← h, ← List.append_assoc A M R, ← List.length_append, List.drop_left]
theorem spl_len (l : List Value) (o : Nat) (cs : List Value) (h : o + cs.length ≤ l.length) : (spl l o cs).length = l.length := by unfold spl; simp; omega

theorem copyK {P : Program} (w : World) (dT sT ty elem : TypeId) (k : Nat) (g o dLen dCap : Nat) (a : Addr) (sLen sCap : Nat) (cur : Array Value) (t : TypeId) (cs : List Value)
    (hu : P.underlying dT = some (.slice elem)) (hs : (P.info? elem).map (·.size) = some k)
    (hg : w.heap[g]? = some (.cells cur t (0, 0))) (hn : cs.length = Nat.min sLen dLen * k)
    (hsrc : ∀ j v, cs[j]? = some v → w.cell? (a.add j) = some v) (hfit : o + cs.length ≤ cur.size) (h1 : ∀ v ∈ cs, v.oneCell' = true) :
    (Builtin.copy_ #[dT, sT] ty #[.slice (some ⟨g, o, none⟩) dLen dCap, .slice (some a) sLen sCap]).run P w = .ok (goInt (Nat.min sLen dLen)) (w.setRow g (spl cur.toList o cs).toArray) := by
  have hl := run_loadCells_list (P := P) w a cs hsrc
  have hst := run_storeCells_at P g o t cs 0 cur w hg (by simpa using hfit) h1
  rw [hn] at hl
  cases hq : P.info? elem with
  | none => simp [hq] at hs
  | some i =>
    have hi : i.size = k := by simpa [hq] using hs
    simp [Builtin.copy_, run_underlying hu, Builtin.lenOf, Builtin.firstCells, sizeOf, typeInfo, hq, hi, hl, hst, spl]

theorem step_append_run {P : Program} {ops : Array Oper} {o : Oper} {a : Act} {w : World} {K : Act → World → Prop} {Q : Exit → Act → World → Prop} {E : Prop}
    (hg : o.guard = none) (d x : Operand) (dT sT : TypeId) (hop : o.op = Op.call { callee := Callee.builtin Builtin.append, args := #[d, x], argTypes := #[dT, sT] })
    (v u : Value) (hd : a.eval d = v) (hx : a.eval x = u) {v' : Value} {w' : World} (hr : (Builtin.append_ #[dT, sT] o.type #[v, u]).run P w = .ok v' w') (hK : K (a.put o.dst v') w') :
    if Region.wanted o (yielded ops a.tmps) = true then Oper.wp P o a w K Q else E := by
  have hw : Region.wanted o (yielded ops a.tmps) = true := by simp [Region.wanted, hg]
  rw [if_pos hw]
  unfold Oper.wp
  simp [execOp, hop, resolve, invoke, builtin, hd, hx, hr, Result.andThen]
  exact hK
theorem step_copy_run {P : Program} {ops : Array Oper} {o : Oper} {a : Act} {w : World} {K : Act → World → Prop} {Q : Exit → Act → World → Prop} {E : Prop}
    (hg : o.guard = none) (d x : Operand) (dT sT : TypeId) (hop : o.op = Op.call { callee := Callee.builtin Builtin.copy, args := #[d, x], argTypes := #[dT, sT] })
    (v u : Value) (hd : a.eval d = v) (hx : a.eval x = u) {v' : Value} {w' : World} (hr : (Builtin.copy_ #[dT, sT] o.type #[v, u]).run P w = .ok v' w') (hK : K (a.put o.dst v') w') :
    if Region.wanted o (yielded ops a.tmps) = true then Oper.wp P o a w K Q else E := by
  have hw : Region.wanted o (yielded ops a.tmps) = true := by simp [Region.wanted, hg]
  rw [if_pos hw]
  unfold Oper.wp
  simp [execOp, hop, resolve, invoke, builtin, hd, hx, hr, Result.andThen]
  exact hK
theorem own_row {w : World} {B e k n : Nat} {v : Value} {xs : List Value} (h : w.ownsRow B e k v n xs) (hn : 0 < n) :
    ∃ g cap cur rest, v = .slice (some ⟨g, 0, none⟩) n cap ∧ B ≤ g ∧ g < w.heap.size ∧ w.heap[g]? = some (.cells cur e (0, 0)) ∧ n ≤ cap ∧ cap ≤ maxLen ∧ cur.toList = xs ++ rest ∧ xs.length = n * k ∧ rest.length = (cap - n) * k := by
  rcases h.2 with ⟨_, h0⟩ | ⟨g, cap, cur, rfl, hb, hg, hnc, hcm, hcs, htake⟩
  · omega
  · refine ⟨g, cap, cur, cur.toList.drop (n * k), rfl, hb, lt_of_block hg, hg, hnc, hcm, ?_, h.1, ?_⟩
    · rw [← htake, List.take_append_drop]
    · rw [List.length_drop, Array.length_toList, hcs, ← Nat.sub_mul]
theorem own_of_row {w : World} {B e k n : Nat} {g cap : Nat} {cur : Array Value} {xs rest : List Value} (hb : B ≤ g) (hg : w.heap[g]? = some (.cells cur e (0, 0))) (hnc : n ≤ cap) (hcm : cap ≤ maxLen) (hc : cur.toList = xs ++ rest)
    (hx : xs.length = n * k) (hr : rest.length = (cap - n) * k) : w.ownsRow B e k (.slice (some ⟨g, 0, none⟩) n cap) n xs := by
  refine ⟨hx, .inr ⟨g, cap, cur, rfl, hb, hg, hnc, hcm, ?_, ?_⟩⟩
  · rw [← Array.length_toList, hc, List.length_append, hx, hr, ← Nat.add_mul]; congr 1; omega
  · rw [hc, ← hx, List.take_left]
theorem chg_setRow (L : List Nat) (w : World) (g : Nat) (cs : Array Value) (hg : g ∈ L ∨ w.heap.size ≤ g) : Chg L w (w.setRow g cs) :=
  ⟨rfl, rfl, rfl, by simp, fun k hk hn => setRow_other w g k cs (fun e => by rcases hg with hg | hg; exact hn (e ▸ hg); omega)⟩

theorem insert_cells (xs rest : List Value) (n i k : Nat) (hi : i < n) (hx : xs.length = n * k) (hr : k ≤ rest.length) (news : List Value) (hz : news.length = k) :
    spl (spl (xs ++ rest) ((i + 1) * k) (xs.drop (i * k))) (i * k) news = (xs.take (i * k) ++ news ++ xs.drop (i * k)) ++ rest.drop k := by
  obtain ⟨d, rfl⟩ : ∃ d, n = i + 1 + d := ⟨n - (i + 1), by omega⟩
  have hA : (xs.take (i * k)).length = i * k := by
    rw [List.length_take, hx]; exact Nat.min_eq_left (Nat.mul_le_mul_right _ (by omega))
  have hC : (xs.drop (i * k)).length = d * k + k := by
    rw [List.length_drop, hx, ← Nat.sub_mul, show i + 1 + d - i = d + 1 from by omega, Nat.succ_mul]
  have e1 : xs ++ rest = (xs.take (i * k) ++ (xs.drop (i * k)).take k) ++ ((xs.drop (i * k)).drop k ++ rest.take k) ++ rest.drop k := by
    simp only [List.append_assoc]
    rw [List.take_append_drop, ← List.append_assoc ((xs.drop (i * k)).take k), List.take_append_drop, ← List.append_assoc, List.take_append_drop]
  rw [e1, spl_mid _ _ _ _ (by rw [List.length_append, List.length_drop, List.length_take, hC]; omega) _ (by rw [List.length_append, hA, List.length_take, hC, Nat.succ_mul]; omega)]
  rw [List.append_assoc (_ ++ _) (xs.drop (i * k)) _, spl_mid _ _ _ _ (by rw [List.length_take, hC, hz]; omega) _ hA.symm]
  simp

theorem insert_new (A Z1 Z2 C news : List Value) (n i k : Nat) (hi : i < n) (hA : A.length = i * k) (hZ : Z1.length = (n + 1 - i) * k) (hC : C.length = (n - i) * k) (hz : news.length = k) :
    spl (spl (A ++ Z1 ++ Z2) (i * k) news) ((i + 1) * k) C = (A ++ news ++ C) ++ Z2 := by
  have hZk : Z1.length = (n - i) * k + k := by rw [hZ, show n + 1 - i = n - i + 1 from by omega, Nat.succ_mul]
  have e1 : A ++ Z1 ++ Z2 = A ++ Z1.take k ++ (Z1.drop k ++ Z2) := by
    simp only [List.append_assoc]
    rw [← List.append_assoc (Z1.take k), List.take_append_drop]
  rw [e1, spl_mid _ _ _ _ (by rw [List.length_take, hZk, hz]; omega) _ hA.symm, ← List.append_assoc]
  rw [spl_mid _ _ _ _ (by rw [List.length_drop, hZk, hC]; omega) _ (by rw [List.length_append, hA, hz, Nat.succ_mul])]

theorem zeroCells_len (z : Array Value) (n : Nat) : (Builtin.zeroCells z n).toList.length = n * z.size := by simp [Builtin.zeroCells]

end Go.Proofs.YtedbbinlcdgkoaaGreatDoor

/- A block of two cells that is written whole: the result of a function that hands back a struct of two fields. -/
namespace Go.Proofs.YtedbbinlcdgkoaaGreatDoor
open Go.RowKit

end Go.Proofs.YtedbbinlcdgkoaaGreatDoor

/- A region that draws its order, reads, and calls what makes memory of its own: walked once in the text's order, over the class of the worlds in which nothing that lay has turned. No program in sight. -/
namespace Go.Proofs.YtedbbinlcdgkoaaGreatDoor
open Go.RowKit

structure Later (w0 : World) where
  w : World
  h : Chg [] w0 w

instance (w0 : World) : Inhabited (Later w0) := ⟨⟨w0, Chg.refl _ _⟩⟩

section
variable {P : Program} {ops : Array Oper} {Q : Exit → Act → World → Prop} {md : Region.Mode} {S : World → Prop}
end

end Go.Proofs.YtedbbinlcdgkoaaGreatDoor

import Derived.WalkKit
import Derived.Handy
import Derived.WalkLawsBesides
import Derived.WalkSpells
import Derived.Laws.BytesArg
import Derived.Deep.Draws
import Derived.Deep.AppendLies
import Derived.Maps.AppendAt
import Derived.Laws.CopyRow
import Derived.Lib.SliceRun
import Derived.Lib.Overlaps
import Derived.Lib.AppendZerosOnto
import Derived.Deep.QuietTactic
import Derived.BigQuiet
import Derived.Deep.RegionHeld3

/- Frames and rows: words of our own on worlds; no program in sight. -/
namespace Go.Proofs.YtjedikaidbobdaaGreatDoor
open Go.RowKit

/-- A fact kept from the walk. -/
theorem hid {p : Prop} (h : p) : Hid p := h

theorem ret_bool {a b : Bool} (h : b = a) : Ending.returned (.bool a) = Ending.returned (.bool b) := by rw [h]
theorem ret_int {k : IntKind} {a b : Int} (h : b = a) : Ending.returned (.int k a) = Ending.returned (.int k b) := by rw [h]

/-- What lay when w stood lies as it lay, but for the blocks of L. -/
structure Chg (L : List Nat) (w w' : World) : Prop where
  os : w'.os = w.os
  tape : w'.tape = w.tape
  output : w'.output = w.output
  size : w.heap.size ≤ w'.heap.size
  block : ∀ k, k < w.heap.size → k ∉ L → w'.heap[k]? = w.heap[k]?

theorem Chg.refl (L : List Nat) (w : World) : Chg L w w := ⟨rfl, rfl, rfl, Nat.le_refl _, fun _ _ _ => rfl⟩
theorem Chg.trans {L : List Nat} {a b c : World} (h : Chg L a b) (k : Chg L b c) : Chg L a c :=
  ⟨k.os.trans h.os, k.tape.trans h.tape, k.output.trans h.output, Nat.le_trans h.size k.size,
   fun i hi hn => (k.block i (Nat.lt_of_lt_of_le hi h.size) hn).trans (h.block i hi hn)⟩
theorem Chg.weaken {L M : List Nat} {a b : World} (h : Chg L a b) (hs : ∀ k, k < a.heap.size → k ∈ L → k ∈ M) : Chg M a b :=
  ⟨h.os, h.tape, h.output, h.size, fun i hi hn => h.block i hi (fun e => hn (hs i hi e))⟩
theorem Chg.alloc (L : List Nat) (w : World) (o : Obj) : Chg L w (w.alloc o) := ⟨rfl, rfl, rfl, by simp, fun k hk _ => Below.heap_alloc w o k hk⟩
theorem Chg.drew (L : List Nat) (w : World) : Chg L w w.drew := ⟨rfl, rfl, rfl, Nat.le_refl _, fun _ _ _ => rfl⟩
theorem Chg.setCell {L : List Nat} (w : World) {p : Addr} (hp : p.block ∈ L ∨ w.heap.size ≤ p.block) (u : Value) : Chg L w (w.setCell p u) :=
  ⟨rfl, rfl, rfl, by simp, fun k hk hn => Below.heap_setCell _ _ _ _ (fun e => by rcases hp with hp | hp; exact hn (e ▸ hp); omega)⟩
theorem Chg.of_below {w w' : World} (h : Below w.heap.size w w') (L : List Nat) : Chg L w w' :=
  ⟨h.os, h.tape, h.output, h.size, fun k hk _ => h.block k hk⟩
theorem Chg.of_grownBy {w w' : World} {row : Option Nat} (h : w.grownBy w' row) {L : List Nat} (hr : ∀ k, row = some k → k ∈ L ∨ w.heap.size ≤ k) : Chg L w w' :=
  ⟨h.os, h.tape, h.output, h.size, fun k hk hn => h.block k hk (fun e => by rcases hr k e.symm with h1 | h1; exact hn h1; omega)⟩
theorem Chg.below {L : List Nat} {w w' : World} (h : Chg L w w') {B : Nat} (hB : B ≤ w.heap.size) (hL : ∀ k ∈ L, B ≤ k) : Below B w w' :=
  ⟨h.os, h.tape, h.output, h.size, fun k hk => h.block k (by omega) (fun e => by have := hL k e; omega)⟩
theorem Chg.nil_below {w w' : World} (h : Chg [] w w') : Below w.heap.size w w' := h.below (Nat.le_refl _) (by simp)
theorem Chg.cell {L : List Nat} {w w' : World} (h : Chg L w w') {a : Addr} {v : Value} (hc : w.cell? a = some v) (hn : a.block ∉ L) : w'.cell? a = some v :=
  (World.cell?_of_block (h.block a.block (World.block_lt_of_cell? w a hc) hn)).trans hc
theorem Chg.heap {L : List Nat} {w w' : World} (h : Chg L w w') {k : Nat} {o : Obj} (hc : w.heap[k]? = some o) (hn : k ∉ L) : w'.heap[k]? = some o :=
  (h.block k (lt_of_block hc) hn).trans hc
/-- behind two steps of which the second writes new blocks of the first alone -/
theorem Chg.then {L M : List Nat} {a b c : World} (h : Chg L a b) (k : Chg M b c) (hM : ∀ i, i ∈ M → i < a.heap.size → i ∈ L) : Chg L a c :=
  ⟨k.os.trans h.os, k.tape.trans h.tape, k.output.trans h.output, Nat.le_trans h.size k.size,
   fun i hi hn => (k.block i (Nat.lt_of_lt_of_le hi h.size) (fun e => hn (hM i e hi))).trans (h.block i hi hn)⟩

/-- A byte as a cell holds it. -/
def eb (x : UInt8) : Value := .int .u8 (x.toNat : Int)
/-- An int as a cell holds it. -/
def ei (x : Int) : Value := .int .i64 x

/-- The slice value v reads as the bytes xs in w. -/
def Reads (w : World) (v : Value) (xs : List UInt8) : Prop :=
  ∃ a cap, v = .slice a xs.length cap ∧ xs.length ≤ cap ∧ cap ≤ maxLen ∧ (a = none → xs = []) ∧
    ∀ x, a = some x → x.spot = none ∧ ∀ i (h : i < xs.length), w.cell? ⟨x.block, x.off + i, none⟩ = some (eb xs[i])

theorem Reads.keep {w w' : World} {v : Value} {xs : List UInt8} (h : Reads w v xs) {L : List Nat} (hc : Chg L w w') (hL : ∀ k ∈ L, w.heap.size ≤ k) : Reads w' v xs := by
  obtain ⟨a, cap, hv, h1, h2, h3, h4⟩ := h
  refine ⟨a, cap, hv, h1, h2, h3, fun x hx => ⟨(h4 x hx).1, fun i hi => ?_⟩⟩
  have hcell := (h4 x hx).2 i hi
  refine hc.cell hcell (fun e => ?_)
  have h5 := hL _ e
  have h6 := World.block_lt_of_cell? w _ hcell
  simp only at h5 h6
  omega

theorem Reads.below {w w' : World} {v : Value} {xs : List UInt8} (h : Reads w v xs) (hb : Below w.heap.size w w') : Reads w' v xs :=
  h.keep (Chg.of_below hb []) (by simp)


theorem ofNat_toNat_u8 (x : UInt8) : UInt8.ofNat ((x.toNat : Int)).toNat = x := by simp
theorem strOfNums_map (xs : List UInt8) : strOfNums (xs.map fun x => (x.toNat : Int)) = ⟨xs.toArray⟩ := by
  simp only [strOfNums, List.map_map]
  congr 2
  conv => rhs; rw [← List.map_id xs]
  exact List.map_congr_left fun x _ => ofNat_toNat_u8 x

/-- A slice of bytes as a string. -/
theorem Reads.str {P : Program} {w : World} {v : Value} {xs : List UInt8} (h : Reads w v xs) (src dst e : TypeId) (hs : P.underlying src = some (.slice e)) (he : P.underlying e = some (.int .u8)) (hd : P.underlying dst = some .string) :
    (convert src dst v).run P w = .ok (.string ⟨xs.toArray⟩) w := by
  obtain ⟨a, cap, rfl, _, _, h3, h4⟩ := h
  cases a with
  | none =>
    have := h3 rfl; subst this
    exact run_convert_bytes_nil w src e hs he _ _ dst hd
  | some x =>
    obtain ⟨hx, hc⟩ := h4 x rfl
    obtain ⟨b, off, spot⟩ := x
    simp only at hx; subst hx
    rw [run_convert_bytes_arg w src e hs he b off xs.length cap (xs.map fun x => (x.toNat : Int)) (by simp) (fun i hi => by
      rw [hc i hi]; simp [eb, hi]) dst hd, strOfNums_map]

theorem Reads.len_le {w : World} {v : Value} {xs : List UInt8} (h : Reads w v xs) : xs.length ≤ maxLen := by
  obtain ⟨a, cap, _, h1, h2, _⟩ := h; omega

/-- What the call owns can be read. -/
theorem Reads.of_own {w : World} {base e : Nat} {v : Value} {xs : List UInt8} (h : w.ownsRow base e 1 v xs.length (xs.map eb)) : Reads w v xs := by
  rcases h.2 with ⟨rfl, hn⟩ | ⟨g, cap, cur, rfl, _, hg, hnc, hcm, _, htake⟩
  · have : xs = [] := List.eq_nil_of_length_eq_zero hn
    subst this
    exact ⟨none, 0, rfl, Nat.le_refl _, Nat.zero_le _, (fun _ => rfl), (fun x hx => by cases hx)⟩
  · refine ⟨some ⟨g, 0, none⟩, cap, rfl, hnc, hcm, (fun h => by cases h), fun x hx => ?_⟩
    cases hx
    refine ⟨rfl, fun i hi => ?_⟩
    have h1 : (xs.map eb)[i]? = some (eb xs[i]) := by simp [hi]
    rw [← htake, List.getElem?_take] at h1
    rw [Nat.zero_add, cell_of_row w g i cur e (0, 0) hg]
    split at h1
    · simpa using h1
    · cases h1

theorem Reads.nil (w : World) : Reads w (.slice none 0 0) [] := ⟨none, 0, rfl, Nat.le_refl _, Nat.zero_le _, (fun _ => rfl), (fun x hx => by cases hx)⟩

theorem al_new {w : World} {o : Obj} {k : Nat} (h : k = w.heap.size) : (w.alloc o).heap[k]? = some o := by subst h; exact heap_alloc_new w o
theorem al_old {w : World} {o o' : Obj} {k : Nat} (h : w.heap[k]? = some o') : (w.alloc o).heap[k]? = some o' := (Below.heap_alloc w o k (lt_of_block h)).trans h

/-- a row of n zero bytes -/
def zrow (n : Nat) : Array Value := (List.replicate n (eb 0)).toArray
theorem zrow_toList (n : Nat) : (zrow n).toList = (List.replicate n (0 : UInt8)).map eb := by simp [zrow]
theorem zrow_eq (n : Nat) : zrow n = ((List.replicate n (0 : UInt8)).map eb).toArray := by simp [zrow]
theorem zrow_size (n : Nat) : (zrow n).size = n := by simp [zrow]

/-- make([]byte, n) -/
theorem mk_bytes {P : Program} (t e : TypeId) (ht : P.underlying t = some (.slice e)) (hi : (P.info? e).map (fun i => (i.zero, i.size, i.bytes)) = some (some (.int .u8 0), 1, 1)) (n : Nat) (hn : n ≤ 1000000) (w : World) :
    (Instr.makeSlice t (.int .i64 (n : Int)) (.int .i64 (n : Int))).run P w = .ok (.slice (some ⟨w.heap.size, 0, none⟩) n n) (w.alloc (.cells (zrow n) e)) := by
  obtain ⟨i, h1, h2, h3, h4⟩ := info_parts hi
  rw [run_make w t e i _ ht h1 h2 .i64 .i64 n n (by omega) (Int.le_refl _) (by rw [h4]; omega) (by omega)]
  simp only [Int.toNat_natCast, h3, Nat.mul_one]
  congr 3
  apply Array.toList_inj.1
  rw [show (Value.int .u8 0).cells = #[Value.int .u8 0] from rfl, toList_madeCells_one, zrow]
  rfl

end Go.Proofs.YtjedikaidbobdaaGreatDoor

/- Rows of bytes, more. -/
namespace Go.Proofs.YtjedikaidbobdaaGreatDoor
open Go.RowKit

/-- byte i as a number -/
def bN (b : List UInt8) (i : Nat) : Nat := (b.getD i 0).toNat
theorem bN_lt (b : List UInt8) (i : Nat) : bN b i < 256 := UInt8.toNat_lt _
theorem bN_get (b : List UInt8) (i : Nat) (h : i < b.length) : bN b i = (b[i]).toNat := by
  unfold bN; rw [List.getD_eq_getElem?_getD, List.getElem?_eq_getElem h]; rfl

/-- A slice that reads as bytes, taken apart: of length 0, or its cells one by one. -/
theorem Reads.parts {w : World} {v : Value} {xs : List UInt8} (h : Reads w v xs) {L : Nat} (hL : xs.length = L) :
    (xs = [] ∧ L = 0 ∧ ∃ a cap, v = .slice a 0 cap) ∨
    ∃ bb off cap, v = .slice (some ⟨bb, off, none⟩) L cap ∧ 1 ≤ L ∧ L ≤ cap ∧ cap ≤ 9223372036854775807 ∧ Hid (∀ i, i < L → w.cell? ⟨bb, off + i, none⟩ = some (.int .u8 (bN xs i : Nat))) := by
  subst hL
  obtain ⟨a, cap, rfl, h1, h2, h3, h4⟩ := h
  by_cases h0 : xs = []
  · subst h0; exact .inl ⟨rfl, rfl, a, cap, rfl⟩
  · cases a with
    | none => exact absurd (h3 rfl) h0
    | some x =>
      obtain ⟨hs, hc⟩ := h4 x rfl
      obtain ⟨bb, off, spot⟩ := x
      simp only at hs; subst hs
      refine .inr ⟨bb, off, cap, rfl, List.length_pos_iff.2 h0, h1, by unfold maxLen at h2; omega, fun i hi => ?_⟩
      rw [hc i hi, bN_get xs i hi]; rfl

theorem Reads.shape {w : World} {v : Value} {xs : List UInt8} (h : Reads w v xs) {L : Nat} (hL : xs.length = L) : ∃ a cap, v = .slice a L cap := by
  subst hL; obtain ⟨a, cap, hv, _⟩ := h; exact ⟨a, cap, hv⟩

theorem two_cells {w : World} {g : Nat} {a b : Value} {t : TypeId} {fr : Nat × Nat} (h : w.heap[g]? = some (.cells #[a, b] t fr)) : w.cell? ⟨g, 0, none⟩ = some a ∧ w.cell? ⟨g, 1, none⟩ = some b := by
  rw [cell_of_row w g 0 _ t fr h, cell_of_row w g 1 _ t fr h]; exact ⟨rfl, rfl⟩

theorem Chg.drewN {L : List Nat} {w w' : World} (h : Chg L w w') (n : Nat) : Chg L w (w'.drewN n) := ⟨h.os, h.tape, h.output, h.size, h.block⟩
theorem ret_vb {v : Value} {a b : Bool} (h : b = a) : Ending.returned (.tuple #[v, .bool a]) = Ending.returned (.tuple #[v, .bool b]) := by rw [h]

end Go.Proofs.YtjedikaidbobdaaGreatDoor

/- Slices of one-cell elements that are read, and appends to a slice of the call's own. -/
namespace Go.Proofs.YtjedikaidbobdaaGreatDoor
open Go.RowKit

/-- The slice value v reads as the cells xs in w. -/
def ReadsV (w : World) (v : Value) (xs : List Value) : Prop :=
  ∃ a cap, v = .slice a xs.length cap ∧ xs.length ≤ cap ∧ cap ≤ maxLen ∧ (a = none → xs = []) ∧
    ∀ x, a = some x → x.spot = none ∧ ∀ i (h : i < xs.length), w.cell? ⟨x.block, x.off + i, none⟩ = some xs[i]

theorem ReadsV.keep {w w' : World} {v : Value} {xs : List Value} (h : ReadsV w v xs) {L : List Nat} (hc : Chg L w w') (hL : ∀ k ∈ L, w.heap.size ≤ k) : ReadsV w' v xs := by
  obtain ⟨a, cap, hv, h1, h2, h3, h4⟩ := h
  refine ⟨a, cap, hv, h1, h2, h3, fun x hx => ⟨(h4 x hx).1, fun i hi => ?_⟩⟩
  have hcell := (h4 x hx).2 i hi
  refine hc.cell hcell (fun e => ?_)
  have h5 := hL _ e
  have h6 := World.block_lt_of_cell? w _ hcell
  simp only at h5 h6
  omega

theorem ReadsV.of_own {w : World} {base e : Nat} {v : Value} {xs : List Value} (h : w.ownsRow base e 1 v xs.length xs) : ReadsV w v xs := by
  rcases h.2 with ⟨rfl, hn⟩ | ⟨g, cap, cur, rfl, _, hg, hnc, hcm, _, htake⟩
  · have : xs = [] := List.eq_nil_of_length_eq_zero hn
    subst this
    exact ⟨none, 0, rfl, Nat.le_refl _, Nat.zero_le _, (fun _ => rfl), (fun x hx => by cases hx)⟩
  · refine ⟨some ⟨g, 0, none⟩, cap, rfl, hnc, hcm, (fun h => by cases h), fun x hx => ?_⟩
    cases hx
    refine ⟨rfl, fun i hi => ?_⟩
    have h1 : (cur.toList.take (xs.length * 1))[i]? = some xs[i] := by rw [htake]; simp [hi]
    rw [List.getElem?_take] at h1
    rw [Nat.zero_add, cell_of_row w g i cur e (0, 0) hg]
    split at h1
    · simpa using h1
    · cases h1

/-- A number as an int's cell. -/
def en (d : Nat) : Value := .int .i64 (d : Int)

theorem ReadsV.parts {w : World} {v : Value} {l : List Nat} (h : ReadsV w v (l.map en)) {L : Nat} (hL : l.length = L) :
    (l = [] ∧ L = 0 ∧ ∃ a cap, v = .slice a 0 cap) ∨
    ∃ bb off cap, v = .slice (some ⟨bb, off, none⟩) L cap ∧ 1 ≤ L ∧ L ≤ cap ∧ cap ≤ 9223372036854775807 ∧ Hid (∀ i, i < L → w.cell? ⟨bb, off + i, none⟩ = some (.int .i64 (l.getD i 0 : Nat))) := by
  subst hL
  obtain ⟨a, cap, hv, h1, h2, h3, h4⟩ := h
  rw [List.length_map] at hv h1
  by_cases h0 : l = []
  · subst h0; exact .inl ⟨rfl, rfl, a, cap, hv⟩
  · cases a with
    | none => exact absurd (by simpa using h3 rfl) h0
    | some x =>
      obtain ⟨hs, hc⟩ := h4 x rfl
      obtain ⟨bb, off, spot⟩ := x
      simp only at hs; subst hs
      refine .inr ⟨bb, off, cap, hv, List.length_pos_iff.2 h0, h1, by unfold maxLen at h2; omega, fun i hi => ?_⟩
      rw [hc i (by simpa using hi), List.getD_eq_getElem?_getD, List.getElem?_eq_getElem hi]; simp [en]

/-- The block that a slice value begins in. -/
def own (v : Value) : List Nat := v.ownBlock.toList

theorem own_ge {w : World} {B e n : Nat} {v : Value} {xs : List Value} (h : w.ownsRow B e 1 v n xs) : ∀ k ∈ own v, B ≤ k := by
  intro k hk
  have := h.lt k (by simpa [own] using hk)
  exact this.1

theorem own_keep {w w' : World} {B e n : Nat} {v : Value} {xs : List Value} (h : w.ownsRow B e 1 v n xs) {L : List Nat} (hc : Chg L w w') (hn : ∀ k ∈ own v, k ∉ L) : w'.ownsRow B e 1 v n xs := by
  refine ⟨h.1, ?_⟩
  rcases h.2 with h2 | ⟨g, cap, cur, rfl, hb, hg, rest⟩
  · exact .inl h2
  · exact .inr ⟨g, cap, cur, rfl, hb, hc.heap hg (hn g (by simp [own, Value.ownBlock])), rest⟩

theorem own_base {w : World} {B B' e n : Nat} {v : Value} {xs : List Value} (h : w.ownsRow B e 1 v n xs) (hB : B' ≤ B) : w.ownsRow B' e 1 v n xs := by
  refine ⟨h.1, ?_⟩
  rcases h.2 with h2 | ⟨g, cap, cur, rfl, hb, rest⟩
  · exact .inl h2
  · exact .inr ⟨g, cap, cur, rfl, Nat.le_trans hB hb, rest⟩

theorem chg_own {w wr w' : World} {B e n : Nat} {v : Value} {xs : List Value} (hc : Chg [] w wr) (h : wr.ownsRow B e 1 v n xs) (hB : w.heap.size ≤ B) (hc' : Chg (own v) wr w') : Chg [] w w' :=
  hc.then hc' (fun i hi hlt => by have := own_ge h i hi; omega)

/-- 'append(out, news..)' of elements just built, out the call's own: it may grow. -/
theorem appendN {P : Program} {ops : Array Oper} {rest : List Oper} {o : Oper} {a : Act} {Q : Exit → Act → World → Prop} {wr : World} (hgd : o.guard = none) (s x : Operand) (t : TypeId)
    (ho : o.op = .call { callee := .builtin .append, args := #[s, x], argTypes := #[t, t] }) (B e bytes : Nat) (z : Value) (ht : P.underlying t = some (.slice e))
    (hi : (P.info? e).map (fun i => (i.zero, i.size, i.bytes)) = some (some z, 1, bytes)) (hz : z.cells.size = 1) (hby : bytes ≤ 1000) (m : Nat) (news : List Value) (hm : news.length = m)
    {v : Value} {n : Nat} {xs : List Value} (hown : wr.ownsRow B e 1 v n xs) (hs : a.eval s = v) (hx : a.eval x = .slice (some ⟨wr.heap.size, 0, none⟩) m m) (hu : ∀ u ∈ news, u.oneCell' = true)
    (hn : n + m ≤ 1000000000) (hB : B ≤ wr.heap.size)
    (h : ∀ v' w', w'.ownsRow B e 1 v' (n + m) (xs ++ news) → Chg (own v) wr w' → wpList P ops Q rest (a.put o.dst v') w') : wpList P ops Q (o :: rest) a (wr.alloc (.cells news.toArray e)) := by
  obtain ⟨i, h1, h2, h3, h4⟩ := info_parts hi
  refine wpList_append_own _ hgd s x t ho B e i z 1 bytes ht h1 h2 h3 h4 hz (by decide) v n xs hs (hown.alloc _) ⟨wr.heap.size, 0, none⟩ m m news hx (by omega) ?_ hu (by unfold maxLen; omega) ?_ (by simp; omega) ?_
  · intro j u hj
    have hadd : (⟨wr.heap.size, 0, none⟩ : Addr).add j = ⟨wr.heap.size, j, none⟩ := by unfold Addr.add; split <;> simp_all
    rw [hadd, cell_of_row _ _ j news.toArray e (0, 0) (heap_alloc_new wr _)]
    simpa using hj
  · have : (n + m) * bytes ≤ 1000000000 * 1000 := Nat.mul_le_mul hn hby
    omega
  · intro v' w' ho' hg _
    refine h v' w' ho' ⟨hg.os, hg.tape, hg.output, Nat.le_trans (by simp) hg.size, fun k hk hkn => ?_⟩
    exact (hg.block k (by simp; omega) (fun e => hkn (by simp [own, ← e]))).trans (Below.heap_alloc _ _ _ hk)

end Go.Proofs.YtjedikaidbobdaaGreatDoor

/- An append at a step of a region that draws its order. -/
namespace Go.Proofs.YtjedikaidbobdaaGreatDoor
open Go.RowKit

theorem stepN {P : Program} {ops : Array Oper} {o : Oper} {a : Act} {K : Act → World → Prop} {Q : Exit → Act → World → Prop} {E : Prop} {W : World} (hgd : o.guard = none) (s x : Operand) (t : TypeId)
    (ho : o.op = .call { callee := .builtin .append, args := #[s, x], argTypes := #[t, t] }) (B e bytes : Nat) (z : Value) (ht : P.underlying t = some (.slice e))
    (hi : (P.info? e).map (fun i => (i.zero, i.size, i.bytes)) = some (some z, 1, bytes)) (hz : z.cells.size = 1) (hby : bytes ≤ 1000) (m : Nat) (news : List Value) (hm : news.length = m) (hm0 : 0 < m)
    {v : Value} {n : Nat} {xs : List Value} (hown : W.ownsRow B e 1 v n xs) (g0 : Nat) (hblk : W.heap[g0]? = some (.cells news.toArray e (0, 0)))
    (hs : a.eval s = v) (hx : a.eval x = .slice (some ⟨g0, 0, none⟩) m m) (hu : ∀ u ∈ news, u.oneCell' = true)
    (hn : n + m ≤ 1000000000) (hB : B ≤ W.heap.size)
    (h : ∀ v' w', w'.ownsRow B e 1 v' (n + m) (xs ++ news) → Chg (own v) W w' → K (a.put o.dst v') w') : if Region.wanted o (yielded ops a.tmps) = true then Oper.wp P o a W K Q else E := by
  obtain ⟨i, h1, h2, h3, h4⟩ := info_parts hi
  refine step_append_lies W hgd s x t ho B e i z 1 bytes ht h1 h2 h3 h4 hz (by decide) v n xs hs hown ⟨g0, 0, none⟩ m m news hx (by omega) ?_ hu hm0 (by unfold maxLen; omega) ?_ hB _ rfl ?_
  · intro j u hj
    have hadd : (⟨g0, 0, none⟩ : Addr).add j = ⟨g0, j, none⟩ := by unfold Addr.add; split <;> simp_all
    rw [hadd, cell_of_row _ _ j news.toArray e (0, 0) hblk]
    simpa using hj
  · have : (n + m) * bytes ≤ 1000000000 * 1000 := Nat.mul_le_mul hn hby
    omega
  · intro g cap w' ho' hg _ _
    exact h _ w' ho' ⟨hg.os, hg.tape, hg.output, hg.size, fun k hk hkn => hg.block k hk (fun e => hkn (by simp [own, ← e]))⟩

end Go.Proofs.YtjedikaidbobdaaGreatDoor

/- More on slices of the call's own: a store at an index, an append of a slice that came in. -/
namespace Go.Proofs.YtjedikaidbobdaaGreatDoor
open Go.RowKit

theorem own_made0 (w : World) (e : TypeId) : (w.alloc (.cells #[] e)).ownsRow w.heap.size e 1 (.slice (some ⟨w.heap.size, 0, none⟩) 0 0) 0 [] :=
  ⟨rfl, .inr ⟨w.heap.size, 0, #[], rfl, Nat.le_refl _, heap_alloc_new w _, Nat.le_refl _, Nat.zero_le _, rfl, rfl⟩⟩

theorem own_set {w : World} {B e n : Nat} {v : Value} {xs : List Value} (h : w.ownsRow B e 1 v n xs) (i : Nat) (hi : i < n) :
    ∃ g cap u, v = .slice (some ⟨g, 0, none⟩) n cap ∧ n ≤ cap ∧ cap ≤ 9223372036854775807 ∧ B ≤ g ∧ g < w.heap.size ∧ w.cell? ⟨g, i, none⟩ = some u ∧ Hid (xs[i]? = some u) ∧ w.frozen? ⟨g, i, none⟩ = false ∧
      Hid (∀ y, (w.setCell ⟨g, i, none⟩ y).ownsRow B e 1 v n (xs.set i y) ∧ Chg [g] w (w.setCell ⟨g, i, none⟩ y)) := by
  rcases h.2 with ⟨_, hn⟩ | ⟨g, cap, cur, rfl, hb, hg, hnc, hcm, hcs, htake⟩
  · omega
  · have hlen := h.1
    have hu : xs[i]? = some (xs[i]'(by omega)) := List.getElem?_eq_getElem _
    refine ⟨g, cap, xs[i]'(by omega), rfl, hnc, hcm, hb, lt_of_block hg, ?_, hu, frozen_of_row _ _ _ _ _ hg, fun y => ⟨⟨by simpa using h.1, .inr ⟨g, cap, cur.setIfInBounds i y, rfl, hb, heap_setCell_same w g i cur e y hg, hnc, hcm, by simpa using hcs, ?_⟩⟩, Chg.setCell _ (.inl (by simp)) _⟩⟩
    · rw [cell_of_row w g i cur e (0, 0) hg, ← hu, ← htake, List.getElem?_take, if_pos (by omega)]
      simp
    · rw [← htake, Array.toList_setIfInBounds]
      refine List.ext_getElem? fun j => ?_
      simp only [List.getElem?_take, List.getElem?_set, List.length_take]
      split <;> split <;> simp_all <;> omega

/-- 'append(out, in..)' of a slice that reads as bytes and has an address -/
theorem appendR {P : Program} {ops : Array Oper} {rest : List Oper} {o : Oper} {a : Act} {Q : Exit → Act → World → Prop} {w : World} (hgd : o.guard = none) (s x : Operand) (t : TypeId)
    (ho : o.op = .call { callee := .builtin .append, args := #[s, x], argTypes := #[t, t] }) (B e bytes : Nat) (z : Value) (ht : P.underlying t = some (.slice e))
    (hi : (P.info? e).map (fun i => (i.zero, i.size, i.bytes)) = some (some z, 1, bytes)) (hz : z.cells.size = 1) (hby : bytes ≤ 1000) (ys : List UInt8) (m bb off cap : Nat) (hm : ys.length = m)
    (hy : Reads w (.slice (some ⟨bb, off, none⟩) m cap) ys) {v : Value} {n : Nat} {xs : List Value} (hown : w.ownsRow B e 1 v n xs) (hs : a.eval s = v) (hx : a.eval x = .slice (some ⟨bb, off, none⟩) m cap)
    (hn : n + m ≤ 1000000000) (hB : B ≤ w.heap.size)
    (h : ∀ v' w', w'.ownsRow B e 1 v' (n + m) (xs ++ ys.map eb) → Chg (own v) w w' → wpList P ops Q rest (a.put o.dst v') w') : wpList P ops Q (o :: rest) a w := by
  obtain ⟨i, h1, h2, h3, h4⟩ := info_parts hi
  obtain ⟨ad, c, hv, _, _, _, hc⟩ := hy
  cases hv
  refine wpList_append_own _ hgd s x t ho B e i z 1 bytes ht h1 h2 h3 h4 hz (by decide) v n xs hs hown ⟨bb, off, none⟩ _ cap (ys.map eb) hx (by simp) ?_ ?_ (by unfold maxLen; omega) ?_ hB ?_
  · intro j u hj
    have hadd : (⟨bb, off, none⟩ : Addr).add j = ⟨bb, off + j, none⟩ := by unfold Addr.add; split <;> simp_all
    rw [hadd]
    have hj2 : j < ys.length := by
      rcases Nat.lt_or_ge j ys.length with h | h
      · exact h
      · rw [List.getElem?_eq_none (by simpa using h)] at hj; cases hj
    rw [(hc _ rfl).2 j hj2]
    simpa [hj2] using hj
  · intro u hu
    obtain ⟨y, _, rfl⟩ := List.mem_map.1 hu
    rfl
  · have : (n + ys.length) * bytes ≤ 1000000000 * 1000 := Nat.mul_le_mul hn hby
    omega
  · intro v' w' ho' hg _
    exact h v' w' ho' ⟨hg.os, hg.tape, hg.output, hg.size, fun k hk hkn => hg.block k hk (fun e => hkn (by simp [own, ← e]))⟩

/-- 'append(out, news..)' of elements just built, the new block's number spelled otherwise -/
theorem appendN2 {P : Program} {ops : Array Oper} {rest : List Oper} {o : Oper} {a : Act} {Q : Exit → Act → World → Prop} {wr : World} (hgd : o.guard = none) (s x : Operand) (t : TypeId)
    (ho : o.op = .call { callee := .builtin .append, args := #[s, x], argTypes := #[t, t] }) (B e bytes : Nat) (z : Value) (ht : P.underlying t = some (.slice e))
    (hi : (P.info? e).map (fun i => (i.zero, i.size, i.bytes)) = some (some z, 1, bytes)) (hz : z.cells.size = 1) (hby : bytes ≤ 1000) (m : Nat) (news : List Value) (hm : news.length = m) (g0 : Nat) (hg0 : g0 = wr.heap.size)
    {v : Value} {n : Nat} {xs : List Value} (hown : wr.ownsRow B e 1 v n xs) (hs : a.eval s = v) (hx : a.eval x = .slice (some ⟨g0, 0, none⟩) m m) (hu : ∀ u ∈ news, u.oneCell' = true)
    (hn : n + m ≤ 1000000000) (hB : B ≤ wr.heap.size)
    (h : ∀ v' w', w'.ownsRow B e 1 v' (n + m) (xs ++ news) → Chg (own v) wr w' → wpList P ops Q rest (a.put o.dst v') w') : wpList P ops Q (o :: rest) a (wr.alloc (.cells news.toArray e)) := by
  subst hg0
  exact appendN hgd s x t ho B e bytes z ht hi hz hby m news hm hown hs hx hu hn hB h

end Go.Proofs.YtjedikaidbobdaaGreatDoor

/- Appending a slice that is read, nil or not, to one of the call's own. -/
namespace Go.Proofs.YtjedikaidbobdaaGreatDoor
open Go.RowKit

theorem run_append_empty {P : Program} (w : World) (base : Nat) (t ty e : TypeId) (i : TypeInfo) (size : Nat) (ht : P.underlying t = some (.slice e)) (hi : P.info? e = some i)
    (v : Value) (n : Nat) (xs : List Value) (hown : w.ownsRow base e size v n xs) (c : Nat) : (Builtin.append_ #[t, t] ty #[v, .slice none 0 c]).run P w = .ok v w := by
  rcases hown.2 with ⟨rfl, rfl⟩ | ⟨g, cap, cur, rfl, _, _, hnc, _⟩
  · simp [Builtin.append_, run_underlying ht, sizeOf, typeInfo, hi, Builtin.lenOf, Builtin.firstCells]
  · simp [Builtin.append_, run_underlying ht, sizeOf, typeInfo, hi, Builtin.lenOf, Builtin.firstCells, hnc, storeCells]

/-- 'append(out, in..)' of a slice that reads as the cells ys, nil or not -/
theorem appendV {P : Program} {ops : Array Oper} {rest : List Oper} {o : Oper} {a : Act} {Q : Exit → Act → World → Prop} {w : World} (hgd : o.guard = none) (s x : Operand) (t : TypeId)
    (ho : o.op = .call { callee := .builtin .append, args := #[s, x], argTypes := #[t, t] }) (B e bytes : Nat) (z : Value) (ht : P.underlying t = some (.slice e))
    (hi : (P.info? e).map (fun i => (i.zero, i.size, i.bytes)) = some (some z, 1, bytes)) (hz : z.cells.size = 1) (hby : bytes ≤ 1000) {ys : List Value} {m : Nat} {ad : Option Addr} {cap : Nat} (hm : ys.length = m)
    (hy : ReadsV w (.slice ad m cap) ys) (h1 : ∀ u ∈ ys, u.oneCell' = true) {v : Value} {n : Nat} {xs : List Value} (hown : w.ownsRow B e 1 v n xs) (hs : a.eval s = v) (hx : a.eval x = .slice ad m cap)
    (hn : n + m ≤ 1000000000) (hB : B ≤ w.heap.size)
    (h : ∀ v' w', w'.ownsRow B e 1 v' (n + m) (xs ++ ys) → Chg (own v) w w' → wpList P ops Q rest (a.put o.dst v') w') : wpList P ops Q (o :: rest) a w := by
  obtain ⟨i, h1', h2, h3, h4⟩ := info_parts hi
  obtain ⟨ad', c, hv, _, _, hnil, hc⟩ := hy
  cases ad with
  | none =>
    injection hv with e1 e2 e3
    subst e1
    have hys := hnil rfl
    subst hys
    obtain rfl : m = 0 := by simpa using hm.symm
    refine wpList_plain hgd fun K hK => ?_
    have hrun := run_append_empty (P := P) w B t o.type e i 1 ht h1' v n xs hown cap
    unfold Oper.wp
    simp [execOp, ho, resolve, invoke, builtin, hs, hx, hrun, Result.andThen]
    exact hK _ _ (h v w (by simpa using hown) (Chg.refl _ _))
  | some p =>
    injection hv with e1 e2 e3
    subst e1
    obtain ⟨hsp, hc⟩ := hc p rfl
    obtain ⟨bb, off, spot⟩ := p
    simp only at hsp
    subst hsp
    refine wpList_append_own _ hgd s x t ho B e i z 1 bytes ht h1' h2 h3 h4 hz (by decide) v n xs hs hown ⟨bb, off, none⟩ _ cap ys hx (by simpa using hm) ?_ h1 (by unfold maxLen; omega) ?_ hB ?_
    · intro j u hj
      have hadd : (⟨bb, off, none⟩ : Addr).add j = ⟨bb, off + j, none⟩ := by unfold Addr.add; split <;> simp_all
      rw [hadd]
      have hj2 : j < ys.length := by
        rcases Nat.lt_or_ge j ys.length with h | h
        · exact h
        · rw [List.getElem?_eq_none (by simpa using h)] at hj; cases hj
      rw [hc j hj2]
      simpa [hj2] using hj
    · have : (n + m) * bytes ≤ 1000000000 * 1000 := Nat.mul_le_mul hn hby
      omega
    · intro v' w' ho' hg _
      exact h v' w' ho' ⟨hg.os, hg.tape, hg.output, hg.size, fun k hk hkn => hg.block k hk (fun e => hkn (by simp [own, ← e]))⟩

/-- a literal of elements just built is the call's own -/
theorem own_lit {w : World} {e : TypeId} (news : List Value) {m : Nat} (hm : news.length = m) (hmax : m ≤ 1000000) : (w.alloc (.cells news.toArray e)).ownsRow w.heap.size e 1 (.slice (some ⟨w.heap.size, 0, none⟩) m m) m news := by
  refine ⟨by simp [hm], .inr ⟨w.heap.size, m, news.toArray, rfl, Nat.le_refl _, heap_alloc_new w _, Nat.le_refl _, by unfold maxLen; omega, by simp [hm], ?_⟩⟩
  simp [← hm]

end Go.Proofs.YtjedikaidbobdaaGreatDoor

/- Slices whose elements take k cells: read, owned, appended to; no program in sight. -/
namespace Go.Proofs.YtjedikaidbobdaaGreatDoor
open Go.RowKit

theorem add_at (b o i : Nat) : (⟨b, o, none⟩ : Addr).add i = ⟨b, o + i, none⟩ := by unfold Addr.add; split <;> simp_all

/-- The slice value v of n elements of k cells each reads as the cells xs. -/
def RdK (w : World) (k : Nat) (v : Value) (n : Nat) (xs : List Value) : Prop :=
  ∃ a cap, v = .slice a n cap ∧ n ≤ cap ∧ cap ≤ maxLen ∧ xs.length = n * k ∧ (a = none → n = 0) ∧
    ∀ x, a = some x → x.spot = none ∧ ∀ i u, xs[i]? = some u → w.cell? ⟨x.block, x.off + i, none⟩ = some u

section
variable {w w' : World} {k n : Nat} {v : Value} {xs : List Value}
theorem RdK.keep (h : RdK w k v n xs) {L : List Nat} (hc : Chg L w w') (hL : ∀ k ∈ L, w.heap.size ≤ k) : RdK w' k v n xs := by
  obtain ⟨a, cap, hv, h1, h2, h3, h4, h5⟩ := h
  refine ⟨a, cap, hv, h1, h2, h3, h4, fun x hx => ⟨(h5 x hx).1, fun i u hi => ?_⟩⟩
  have hcell := (h5 x hx).2 i u hi
  refine hc.cell hcell (fun e => ?_)
  have g1 := hL _ e
  have g2 := World.block_lt_of_cell? w _ hcell
  simp only at g1 g2
  omega
theorem RdK.keep1 (h : RdK w k v n xs) (hc : Chg [] w w') : RdK w' k v n xs := h.keep hc (by simp)
theorem RdK.drew (h : RdK w k v n xs) : RdK w.drew k v n xs := h
theorem RdK.drewN (h : RdK w k v n xs) (m : Nat) : RdK (w.drewN m) k v n xs := h
theorem RdK.nil (w : World) (k : Nat) : RdK w k (.slice none 0 0) 0 [] := ⟨none, 0, rfl, Nat.le_refl _, Nat.zero_le _, by simp, (fun _ => rfl), (fun x hx => by cases hx)⟩
theorem RdK.of_own {base : Nat} {e : TypeId} (h : w.ownsRow base e k v n xs) : RdK w k v n xs := by
  rcases h.2 with ⟨rfl, hn⟩ | ⟨g, cap, cur, rfl, _, hg, hnc, hcm, _, htake⟩
  · subst hn
    have : xs = [] := List.eq_nil_of_length_eq_zero (by simpa using h.1)
    subst this
    exact RdK.nil w k
  · refine ⟨some ⟨g, 0, none⟩, cap, rfl, hnc, hcm, h.1, (fun h => by cases h), fun x hx => ?_⟩
    cases hx
    refine ⟨rfl, fun i u hi => ?_⟩
    rw [← htake, List.getElem?_take] at hi
    simp only
    rw [Nat.zero_add, cell_of_row w g i cur e (0, 0) hg]
    split at hi
    · simpa using hi
    · cases hi
theorem RdK.shape (h : RdK w k v n xs) : ∃ a cap, v = .slice a n cap := by obtain ⟨a, cap, hv, _⟩ := h; exact ⟨a, cap, hv⟩
theorem RdK.len_le (h : RdK w k v n xs) : n ≤ maxLen := by obtain ⟨a, cap, _, h1, h2, _⟩ := h; omega
theorem RdK.length (h : RdK w k v n xs) : xs.length = n * k := by obtain ⟨a, cap, _, h1, h2, h3, _⟩ := h; exact h3
theorem RdK.parts (h : RdK w k v n xs) : (n = 0 ∧ ∃ a cap, v = .slice a 0 cap) ∨
    ∃ bb off cap, v = .slice (some ⟨bb, off, none⟩) n cap ∧ 1 ≤ n ∧ n ≤ cap ∧ cap ≤ 9223372036854775807 ∧ Hid (∀ i u, xs[i]? = some u → w.cell? ⟨bb, off + i, none⟩ = some u) := by
  obtain ⟨a, cap, rfl, h1, h2, h3, h4, h5⟩ := h
  rcases Nat.eq_zero_or_pos n with rfl | hn
  · exact .inl ⟨rfl, a, cap, rfl⟩
  · cases a with
    | none => exact absurd (h4 rfl) (by omega)
    | some x =>
      obtain ⟨hs, hc⟩ := h5 x rfl
      obtain ⟨bb, off, spot⟩ := x
      simp only at hs; subst hs
      exact .inr ⟨bb, off, cap, rfl, hn, h1, by unfold maxLen at h2; omega, hc⟩

variable {B : Nat} {e : TypeId}
theorem ownK_ge (h : w.ownsRow B e k v n xs) : ∀ j ∈ own v, B ≤ j := by
  intro j hj
  exact (h.lt j (by simpa [own] using hj)).1
theorem ownK_lt (h : w.ownsRow B e k v n xs) : ∀ j ∈ own v, j < w.heap.size := by
  intro j hj
  exact (h.lt j (by simpa [own] using hj)).2
theorem ownK_keep (h : w.ownsRow B e k v n xs) {L : List Nat} (hc : Chg L w w') (hn : ∀ j ∈ own v, j ∉ L) : w'.ownsRow B e k v n xs := by
  refine ⟨h.1, ?_⟩
  rcases h.2 with h2 | ⟨g, cap, cur, rfl, hb, hg, rest⟩
  · exact .inl h2
  · exact .inr ⟨g, cap, cur, rfl, hb, hc.heap hg (hn g (by simp [own, Value.ownBlock])), rest⟩
theorem ownK_keep1 (h : w.ownsRow B e k v n xs) (hc : Chg [] w w') : w'.ownsRow B e k v n xs := ownK_keep h hc (by simp)
theorem ownK_base {B' : Nat} (h : w.ownsRow B e k v n xs) (hB : B' ≤ B) : w.ownsRow B' e k v n xs := by
  refine ⟨h.1, ?_⟩
  rcases h.2 with h2 | ⟨g, cap, cur, rfl, hb, rest⟩
  · exact .inl h2
  · exact .inr ⟨g, cap, cur, rfl, Nat.le_trans hB hb, rest⟩
theorem chg_ownK {w wr w' : World} (hc : Chg [] w wr) (h : wr.ownsRow B e k v n xs) (hB : w.heap.size ≤ B) (hc' : Chg (own v) wr w') : Chg [] w w' :=
  hc.then hc' (fun i hi hlt => by have := ownK_ge h i hi; omega)
/-- rows of different element types lie apart -/
theorem ownK_apart {w : World} {B B' k k' n n' : Nat} {e e' : TypeId} {v v' : Value} {xs xs' : List Value} (h : w.ownsRow B e k v n xs) (h' : w.ownsRow B' e' k' v' n' xs') (hne : e ≠ e') : ∀ j ∈ own v, j ∉ own v' := by
  intro j hj hj'
  rcases h.2 with ⟨rfl, _⟩ | ⟨g, cap, cur, rfl, _, hg, _⟩
  · simp [own, Value.ownBlock] at hj
  · rcases h'.2 with ⟨rfl, _⟩ | ⟨g', cap', cur', rfl, _, hg', _⟩
    · simp [own, Value.ownBlock] at hj'
    · simp only [own, Value.ownBlock, Option.toList, List.mem_singleton] at hj hj'
      subst hj
      subst hj'
      rw [hg] at hg'
      injection hg' with q
      injection q with _ q
      exact hne q
/-- an empty row, just made -/
theorem own_madeK (w : World) (e : TypeId) (k : Nat) : (w.alloc (.cells #[] e)).ownsRow w.heap.size e k (.slice (some ⟨w.heap.size, 0, none⟩) 0 0) 0 [] :=
  ⟨by simp, .inr ⟨w.heap.size, 0, #[], rfl, Nat.le_refl _, heap_alloc_new w _, Nat.le_refl _, Nat.zero_le _, by simp, by simp⟩⟩
/-- a literal of elements just built is the call's own -/
theorem own_litK {w : World} {e : TypeId} (k : Nat) (news : List Value) {m : Nat} (hm : news.length = m * k) (hmax : m ≤ 1000000) : (w.alloc (.cells news.toArray e)).ownsRow w.heap.size e k (.slice (some ⟨w.heap.size, 0, none⟩) m m) m news :=
  ⟨hm, .inr ⟨w.heap.size, m, news.toArray, rfl, Nat.le_refl _, heap_alloc_new w _, Nat.le_refl _, by unfold maxLen; omega, by simp [hm], by simp [← hm]⟩⟩
end

/-- 'append(out, news..)' of m elements of k cells just built, out the call's own -/
theorem appendNK {P : Program} {ops : Array Oper} {rest : List Oper} {o : Oper} {a : Act} {Q : Exit → Act → World → Prop} {wr : World} (hgd : o.guard = none) (s x : Operand) (t : TypeId)
    (ho : o.op = .call { callee := .builtin .append, args := #[s, x], argTypes := #[t, t] }) (B e k bytes : Nat) (hk : 0 < k) (z : Value) (ht : P.underlying t = some (.slice e))
    (hi : (P.info? e).map (fun i => (i.zero, i.size, i.bytes)) = some (some z, k, bytes)) (hz : z.cells.size = k) (hby : bytes ≤ 1000) (m : Nat) (news : List Value) (hm : news.length = m * k) (g0 : Nat) (hg0 : g0 = wr.heap.size)
    {v : Value} {n : Nat} {xs : List Value} (hown : wr.ownsRow B e k v n xs) (hs : a.eval s = v) (hx : a.eval x = .slice (some ⟨g0, 0, none⟩) m m) (hu : ∀ u ∈ news, u.oneCell' = true)
    (hn : n + m ≤ 1000000000) (hB : B ≤ wr.heap.size)
    (h : ∀ v' w', w'.ownsRow B e k v' (n + m) (xs ++ news) → Chg (own v) wr w' → wpList P ops Q rest (a.put o.dst v') w') : wpList P ops Q (o :: rest) a (wr.alloc (.cells news.toArray e)) := by
  subst hg0
  obtain ⟨i, h1, h2, h3, h4⟩ := info_parts hi
  refine wpList_append_own _ hgd s x t ho B e i z k bytes ht h1 h2 h3 h4 hz hk v n xs hs (hown.alloc _) ⟨wr.heap.size, 0, none⟩ m m news hx hm ?_ hu (by unfold maxLen; omega) ?_ (by simp; omega) ?_
  · intro j u hj
    rw [add_at, Nat.zero_add, cell_of_row _ _ j news.toArray e (0, 0) (heap_alloc_new wr _)]
    simpa using hj
  · have : (n + m) * bytes ≤ 1000000000 * 1000 := Nat.mul_le_mul hn hby
    omega
  · intro v' w' ho' hg _
    refine h v' w' ho' ⟨hg.os, hg.tape, hg.output, Nat.le_trans (by simp) hg.size, fun k hk hkn => ?_⟩
    exact (hg.block k (by simp; omega) (fun e => hkn (by simp [own, ← e]))).trans (Below.heap_alloc _ _ _ hk)

theorem run_append_emptyK {P : Program} (w : World) (base : Nat) (t ty e : TypeId) (i : TypeInfo) (size : Nat) (ht : P.underlying t = some (.slice e)) (hi : P.info? e = some i)
    (v : Value) (n : Nat) (xs : List Value) (hown : w.ownsRow base e size v n xs) (c : Nat) : (Builtin.append_ #[t, t] ty #[v, .slice none 0 c]).run P w = .ok v w := by
  rcases hown.2 with ⟨rfl, rfl⟩ | ⟨g, cap, cur, rfl, _, _, hnc, _⟩
  · simp [Builtin.append_, run_underlying ht, sizeOf, typeInfo, hi, Builtin.lenOf, Builtin.firstCells]
  · simp [Builtin.append_, run_underlying ht, sizeOf, typeInfo, hi, Builtin.lenOf, Builtin.firstCells, hnc, storeCells]

/-- 'append(out, in..)' of a slice that reads as the cells ys, nil or not -/
theorem appendRK {P : Program} {ops : Array Oper} {rest : List Oper} {o : Oper} {a : Act} {Q : Exit → Act → World → Prop} {w : World} (hgd : o.guard = none) (s x : Operand) (t : TypeId)
    (ho : o.op = .call { callee := .builtin .append, args := #[s, x], argTypes := #[t, t] }) (B e k bytes : Nat) (hk : 0 < k) (z : Value) (ht : P.underlying t = some (.slice e))
    (hi : (P.info? e).map (fun i => (i.zero, i.size, i.bytes)) = some (some z, k, bytes)) (hz : z.cells.size = k) (hby : bytes ≤ 1000) {ys : List Value} {m : Nat} {ad : Option Addr} {cap : Nat}
    (hy : RdK w k (.slice ad m cap) m ys) (h1 : ∀ u ∈ ys, u.oneCell' = true) {v : Value} {n : Nat} {xs : List Value} (hown : w.ownsRow B e k v n xs) (hs : a.eval s = v) (hx : a.eval x = .slice ad m cap)
    (hn : n + m ≤ 1000000000) (hB : B ≤ w.heap.size)
    (h : ∀ v' w', w'.ownsRow B e k v' (n + m) (xs ++ ys) → Chg (own v) w w' → wpList P ops Q rest (a.put o.dst v') w') : wpList P ops Q (o :: rest) a w := by
  obtain ⟨i, h1', h2, h3, h4⟩ := info_parts hi
  obtain ⟨ad', c, hv, _, _, hl, hnil, hc⟩ := hy
  injection hv with e1 e2 e3
  subst e1
  cases ad with
  | none =>
    obtain rfl : m = 0 := hnil rfl
    have hys : ys = [] := List.eq_nil_of_length_eq_zero (by simpa using hl)
    subst hys
    refine wpList_plain hgd fun K hK => ?_
    have hrun := run_append_emptyK (P := P) w B t o.type e i k ht h1' v n xs hown cap
    unfold Oper.wp
    simp [execOp, ho, resolve, invoke, builtin, hs, hx, hrun, Result.andThen]
    exact hK _ _ (h v w (by simpa using hown) (Chg.refl _ _))
  | some p =>
    obtain ⟨hsp, hc⟩ := hc p rfl
    obtain ⟨bb, off, spot⟩ := p
    simp only at hsp
    subst hsp
    refine wpList_append_own _ hgd s x t ho B e i z k bytes ht h1' h2 h3 h4 hz hk v n xs hs hown ⟨bb, off, none⟩ _ cap ys hx hl ?_ h1 (by unfold maxLen; omega) ?_ hB ?_
    · intro j u hj
      rw [add_at]; exact hc j u hj
    · have : (n + m) * bytes ≤ 1000000000 * 1000 := Nat.mul_le_mul hn hby
      omega
    · intro v' w' ho' hg _
      exact h v' w' ho' ⟨hg.os, hg.tape, hg.output, hg.size, fun k hk hkn => hg.block k hk (fun e => hkn (by simp [own, ← e]))⟩

/-- cells of a list of elements, one behind the other -/
theorem flat_len {α : Type} (enc : α → List Value) (k : Nat) (hk : ∀ x, (enc x).length = k) : ∀ l : List α, (l.flatMap enc).length = l.length * k
  | [] => by simp
  | x :: l => by rw [List.flatMap_cons, List.length_append, hk, flat_len enc k hk l, List.length_cons, Nat.succ_mul, Nat.add_comm]
theorem flat_get {α : Type} [Inhabited α] (enc : α → List Value) (k : Nat) (hk : ∀ x, (enc x).length = k) : ∀ (l : List α) (i j : Nat), i < l.length → j < k → (l.flatMap enc)[i * k + j]? = (enc (l.getD i default))[j]?
  | [], i, _, h, _ => by simp at h
  | x :: l, 0, j, _, hj => by
    rw [List.flatMap_cons, Nat.zero_mul, Nat.zero_add, List.getElem?_append_left (by rw [hk]; exact hj)]; rfl
  | x :: l, i + 1, j, h, hj => by
    rw [List.flatMap_cons, List.getElem?_append_right (by rw [hk, Nat.succ_mul]; omega), hk, show (i + 1) * k + j - k = i * k + j from by rw [Nat.succ_mul]; omega,
      flat_get enc k hk l i j (by simpa using h) hj]
    rfl
theorem flat_take {α : Type} (enc : α → List Value) (k : Nat) (hk : ∀ x, (enc x).length = k) : ∀ (l : List α) (i : Nat), (l.flatMap enc).take (i * k) = (l.take i).flatMap enc
  | [], i => by simp
  | x :: l, 0 => by simp
  | x :: l, i + 1 => by
    rw [List.flatMap_cons, List.take_succ_cons, List.flatMap_cons, List.take_append, hk, List.take_of_length_le (by rw [hk, Nat.succ_mul]; omega), show (i + 1) * k - k = i * k from by rw [Nat.succ_mul]; omega, flat_take enc k hk l i]
theorem flat_drop {α : Type} (enc : α → List Value) (k : Nat) (hk : ∀ x, (enc x).length = k) : ∀ (l : List α) (i : Nat), (l.flatMap enc).drop (i * k) = (l.drop i).flatMap enc
  | [], i => by simp
  | x :: l, 0 => by simp
  | x :: l, i + 1 => by
    rw [List.flatMap_cons, List.drop_succ_cons, List.drop_append, hk, List.drop_of_length_le (by rw [hk, Nat.succ_mul]; omega), List.nil_append, show (i + 1) * k - k = i * k from by rw [Nat.succ_mul]; omega, flat_drop enc k hk l i]

end Go.Proofs.YtjedikaidbobdaaGreatDoor

/- Runs of copy, clear and append at elements of k cells, and what insertion and deletion leave; no program in sight. -/
namespace Go.Proofs.YtjedikaidbobdaaGreatDoor
open Go.RowKit
set_option linter.unusedVariables false
set_option linter.unusedSimpArgs false

/-- cells cs written at place o -/
def spl (l : List Value) (o : Nat) (cs : List Value) : List Value := l.take o ++ cs ++ l.drop (o + cs.length)
theorem spl_mid (A M R cs : List Value) (h : M.length = cs.length) (o : Nat) (ho : o = A.length) : spl (A ++ M ++ R) o cs = A ++ cs ++ R := by
  subst ho
  unfold spl
  rw [List.append_assoc A M R, List.take_left, ← h, ← List.append_assoc A M R, ← List.length_append, List.drop_left]
theorem spl_len (l : List Value) (o : Nat) (cs : List Value) (h : o + cs.length ≤ l.length) : (spl l o cs).length = l.length := by unfold spl; simp; omega

theorem copyK {P : Program} (w : World) (dT sT ty elem : TypeId) (k : Nat) (g o dLen dCap : Nat) (a : Addr) (sLen sCap : Nat) (cur : Array Value) (t : TypeId) (cs : List Value)
    (hu : P.underlying dT = some (.slice elem)) (hs : (P.info? elem).map (·.size) = some k)
    (hg : w.heap[g]? = some (.cells cur t (0, 0))) (hn : cs.length = Nat.min sLen dLen * k)
    (hsrc : ∀ j v, cs[j]? = some v → w.cell? (a.add j) = some v) (hfit : o + cs.length ≤ cur.size) (h1 : ∀ v ∈ cs, v.oneCell' = true) :
    (Builtin.copy_ #[dT, sT] ty #[.slice (some ⟨g, o, none⟩) dLen dCap, .slice (some a) sLen sCap]).run P w = .ok (goInt (Nat.min sLen dLen)) (w.setRow g (spl cur.toList o cs).toArray) := by
  have hl := run_loadCells_list (P := P) w a cs hsrc
  have hst := run_storeCells_at P g o t cs 0 cur w hg (by simpa using hfit) h1
  rw [hn] at hl
  cases hq : P.info? elem with
  | none => simp [hq] at hs
  | some i =>
    have hi : i.size = k := by simpa [hq] using hs
    simp [Builtin.copy_, run_underlying hu, Builtin.lenOf, Builtin.firstCells, sizeOf, typeInfo, hq, hi, hl, hst, spl]

theorem clearK {P : Program} (w : World) (t e : TypeId) (z : Value) (ht : P.underlying t = some (.slice e)) (hv : ∀ w, (zeroValue e).run P w = .ok z w) (h1 : ∀ u ∈ z.cells.toList, u.oneCell' = true) (hz0 : 0 < z.cells.size)
    (g o n c : Nat) (hn : 0 < n) (cur : Array Value) (te : TypeId) (hg : w.heap[g]? = some (.cells cur te (0, 0))) (hfit : o + n * z.cells.size ≤ cur.size) :
    ∃ zs : List Value, zs.length = n * z.cells.size ∧ ∀ ty, (Builtin.clear_ #[t] ty #[.slice (some ⟨g, o, none⟩) n c]).run P w = .ok (.tuple #[]) (w.setRow g (spl cur.toList o zs).toArray) := by
  refine ⟨(Builtin.zeroCells z.cells n).toList, by simp [Builtin.zeroCells], fun ty => ?_⟩
  have hlen : (Builtin.zeroCells z.cells n).toList.length = n * z.cells.size := by simp [Builtin.zeroCells]
  have hst := run_storeCells_at P g o te (Builtin.zeroCells z.cells n).toList 0 cur w hg (by rw [hlen]; simpa using hfit) (by
    intro v hv'
    simp only [Builtin.zeroCells, Array.toList_map, List.mem_map] at hv'
    obtain ⟨i, _, rfl⟩ := hv'
    refine h1 _ ?_
    have : i % z.cells.size < z.cells.size := Nat.mod_lt _ hz0
    rw [getElem!_pos z.cells _ this]
    exact Array.getElem_mem_toList _)
  obtain ⟨m, rfl⟩ : ∃ m, n = m + 1 := ⟨n - 1, by omega⟩
  simp [Builtin.clear_, run_underlying ht, hv, hst, spl]

/-- a step 'append' whose run is known -/
theorem step_append_run {P : Program} {ops : Array Oper} {o : Oper} {a : Act} {w : World} {K : Act → World → Prop} {Q : Exit → Act → World → Prop} {E : Prop}
    (hg : o.guard = none) (d x : Operand) (dT sT : TypeId) (hop : o.op = Op.call { callee := Callee.builtin Builtin.append, args := #[d, x], argTypes := #[dT, sT] })
    (v u : Value) (hd : a.eval d = v) (hx : a.eval x = u) {v' : Value} {w' : World} (hr : (Builtin.append_ #[dT, sT] o.type #[v, u]).run P w = .ok v' w') (hK : K (a.put o.dst v') w') :
    if Region.wanted o (yielded ops a.tmps) = true then Oper.wp P o a w K Q else E := by
  have hw : Region.wanted o (yielded ops a.tmps) = true := by simp [Region.wanted, hg]
  rw [if_pos hw]
  unfold Oper.wp
  simp [execOp, hop, resolve, invoke, builtin, hd, hx, hr, Result.andThen]
  exact hK
theorem step_copy_run {P : Program} {ops : Array Oper} {o : Oper} {a : Act} {w : World} {K : Act → World → Prop} {Q : Exit → Act → World → Prop} {E : Prop}
    (hg : o.guard = none) (d x : Operand) (dT sT : TypeId) (hop : o.op = Op.call { callee := Callee.builtin Builtin.copy, args := #[d, x], argTypes := #[dT, sT] })
    (v u : Value) (hd : a.eval d = v) (hx : a.eval x = u) {v' : Value} {w' : World} (hr : (Builtin.copy_ #[dT, sT] o.type #[v, u]).run P w = .ok v' w') (hK : K (a.put o.dst v') w') :
    if Region.wanted o (yielded ops a.tmps) = true then Oper.wp P o a w K Q else E := by
  have hw : Region.wanted o (yielded ops a.tmps) = true := by simp [Region.wanted, hg]
  rw [if_pos hw]
  unfold Oper.wp
  simp [execOp, hop, resolve, invoke, builtin, hd, hx, hr, Result.andThen]
  exact hK
theorem list_copy_run {P : Program} (w : World) {ops : Array Oper} {rest : List Oper} {o : Oper} {a : Act} {Q : Exit → Act → World → Prop} (hgd : o.guard = none) (d s : Operand) (t t' : TypeId)
    (ho : o.op = .call { callee := .builtin .copy, args := #[d, s], argTypes := #[t, t'] }) (v u : Value) (hd : a.eval d = v) (hs : a.eval s = u) {v' : Value} {w' : World}
    (hr : (Builtin.copy_ #[t, t'] o.type #[v, u]).run P w = .ok v' w') (h : wpList P ops Q rest (a.put o.dst v') w') : wpList P ops Q (o :: rest) a w :=
  wpList_plain hgd fun _ hK => by
    unfold Oper.wp execOp
    simp only [ho, resolve, invoke, builtin, Sem.run_bind, Sem.run_pure, Result.andThen_ok, List.map_toArray, List.map_cons, List.map_nil, hd, hs, hr]
    exact hK _ _ h
theorem list_clear_run {P : Program} (w : World) {ops : Array Oper} {rest : List Oper} {o : Oper} {a : Act} {Q : Exit → Act → World → Prop} (hgd : o.guard = none) (d : Operand) (t : TypeId)
    (ho : o.op = .call { callee := .builtin .clear, args := #[d], argTypes := #[t] }) (v : Value) (hd : a.eval d = v) {v' : Value} {w' : World}
    (hr : (Builtin.clear_ #[t] o.type #[v]).run P w = .ok v' w') (h : wpList P ops Q rest (a.put o.dst v') w') : wpList P ops Q (o :: rest) a w :=
  wpList_plain hgd fun _ hK => by
    unfold Oper.wp execOp
    simp only [ho, resolve, invoke, builtin, Sem.run_bind, Sem.run_pure, Result.andThen_ok, List.map_toArray, List.map_cons, List.map_nil, hd, hr]
    exact hK _ _ h

/-- a row of the call's own, in its parts -/
theorem own_row {w : World} {B e k n : Nat} {v : Value} {xs : List Value} (h : w.ownsRow B e k v n xs) (hn : 0 < n) :
    ∃ g cap cur rest, v = .slice (some ⟨g, 0, none⟩) n cap ∧ B ≤ g ∧ g < w.heap.size ∧ w.heap[g]? = some (.cells cur e (0, 0)) ∧ n ≤ cap ∧ cap ≤ maxLen ∧ cur.toList = xs ++ rest ∧ xs.length = n * k ∧ rest.length = (cap - n) * k := by
  rcases h.2 with ⟨_, h0⟩ | ⟨g, cap, cur, rfl, hb, hg, hnc, hcm, hcs, htake⟩
  · omega
  · refine ⟨g, cap, cur, cur.toList.drop (n * k), rfl, hb, lt_of_block hg, hg, hnc, hcm, ?_, h.1, ?_⟩
    · rw [← htake, List.take_append_drop]
    · rw [List.length_drop, Array.length_toList, hcs, ← Nat.sub_mul]
theorem own_of_row {w : World} {B e k n : Nat} {g cap : Nat} {cur : Array Value} {xs rest : List Value} (hb : B ≤ g) (hg : w.heap[g]? = some (.cells cur e (0, 0))) (hnc : n ≤ cap) (hcm : cap ≤ maxLen) (hc : cur.toList = xs ++ rest)
    (hx : xs.length = n * k) (hr : rest.length = (cap - n) * k) : w.ownsRow B e k (.slice (some ⟨g, 0, none⟩) n cap) n xs := by
  refine ⟨hx, .inr ⟨g, cap, cur, rfl, hb, hg, hnc, hcm, ?_, ?_⟩⟩
  · rw [← Array.length_toList, hc, List.length_append, hx, hr, ← Nat.add_mul]; congr 1; omega
  · rw [hc, ← hx, List.take_left]
theorem chg_setRow (L : List Nat) (w : World) (g : Nat) (cs : Array Value) (hg : g ∈ L ∨ w.heap.size ≤ g) : Chg L w (w.setRow g cs) :=
  ⟨rfl, rfl, rfl, by simp, fun k hk hn => setRow_other w g k cs (fun e => by rcases hg with hg | hg; exact hn (e ▸ hg); omega)⟩

/-- what a deletion of element i leaves: the elements behind it moved on, the last one cleared -/
theorem delete_cells (xs rest : List Value) (n i k : Nat) (hi : i < n) (hx : xs.length = n * k) (zs : List Value) (hz : zs.length = k) :
    spl (spl (xs ++ rest) (i * k) (xs.drop ((i + 1) * k))) ((n - 1) * k) zs = (xs.take (i * k) ++ xs.drop ((i + 1) * k)) ++ (zs ++ rest) := by
  obtain ⟨d, rfl⟩ : ∃ d, n = i + 1 + d := ⟨n - (i + 1), by omega⟩
  have hD : (xs.drop ((i + 1) * k)).length = d * k := by rw [List.length_drop, hx, ← Nat.sub_mul]; congr 1; omega
  have hA : (xs.take (i * k)).length = i * k := by
    rw [List.length_take, hx]; exact Nat.min_eq_left (Nat.mul_le_mul_right _ (by omega))
  have hC : (xs.drop (i * k)).length = d * k + k := by
    rw [List.length_drop, hx, ← Nat.sub_mul, show i + 1 + d - i = d + 1 from by omega, Nat.succ_mul]
  have e1 : xs ++ rest = xs.take (i * k) ++ (xs.drop (i * k)).take (d * k) ++ ((xs.drop (i * k)).drop (d * k) ++ rest) := by
    rw [List.append_assoc, ← List.append_assoc ((xs.drop (i * k)).take (d * k)), List.take_append_drop, ← List.append_assoc, List.take_append_drop]
  rw [e1, spl_mid _ _ _ _ (by rw [List.length_take, hC, hD]; omega) _ hA.symm]
  have e2 : xs.take (i * k) ++ xs.drop ((i + 1) * k) ++ ((xs.drop (i * k)).drop (d * k) ++ rest) = (xs.take (i * k) ++ xs.drop ((i + 1) * k)) ++ (xs.drop (i * k)).drop (d * k) ++ rest := by simp
  rw [e2, spl_mid _ _ _ _ (by rw [List.length_drop, hC, hz]; omega) _ (by rw [List.length_append, hA, hD, ← Nat.add_mul]; congr 1; omega)]
  simp

/-- what an insertion in place leaves -/
theorem insert_cells (xs rest : List Value) (n i k : Nat) (hi : i < n) (hx : xs.length = n * k) (hr : k ≤ rest.length) (news : List Value) (hz : news.length = k) :
    spl (spl (xs ++ rest) ((i + 1) * k) (xs.drop (i * k))) (i * k) news = (xs.take (i * k) ++ news ++ xs.drop (i * k)) ++ rest.drop k := by
  obtain ⟨d, rfl⟩ : ∃ d, n = i + 1 + d := ⟨n - (i + 1), by omega⟩
  have hA : (xs.take (i * k)).length = i * k := by
    rw [List.length_take, hx]; exact Nat.min_eq_left (Nat.mul_le_mul_right _ (by omega))
  have hC : (xs.drop (i * k)).length = d * k + k := by
    rw [List.length_drop, hx, ← Nat.sub_mul, show i + 1 + d - i = d + 1 from by omega, Nat.succ_mul]
  have e1 : xs ++ rest = (xs.take (i * k) ++ (xs.drop (i * k)).take k) ++ ((xs.drop (i * k)).drop k ++ rest.take k) ++ rest.drop k := by
    simp only [List.append_assoc]
    rw [List.take_append_drop, ← List.append_assoc ((xs.drop (i * k)).take k), List.take_append_drop, ← List.append_assoc, List.take_append_drop]
  rw [e1, spl_mid _ _ _ _ (by rw [List.length_append, List.length_drop, List.length_take, hC]; omega) _ (by rw [List.length_append, hA, List.length_take, hC, Nat.succ_mul]; omega)]
  rw [List.append_assoc (_ ++ _) (xs.drop (i * k)) _, spl_mid _ _ _ _ (by rw [List.length_take, hC, hz]; omega) _ hA.symm]
  simp

/-- what an insertion into a new row leaves -/
theorem insert_new (A Z1 Z2 C news : List Value) (n i k : Nat) (hi : i < n) (hA : A.length = i * k) (hZ : Z1.length = (n + 1 - i) * k) (hC : C.length = (n - i) * k) (hz : news.length = k) :
    spl (spl (A ++ Z1 ++ Z2) (i * k) news) ((i + 1) * k) C = (A ++ news ++ C) ++ Z2 := by
  have hZk : Z1.length = (n - i) * k + k := by rw [hZ, show n + 1 - i = n - i + 1 from by omega, Nat.succ_mul]
  have e1 : A ++ Z1 ++ Z2 = A ++ Z1.take k ++ (Z1.drop k ++ Z2) := by
    simp only [List.append_assoc]
    rw [← List.append_assoc (Z1.take k), List.take_append_drop]
  rw [e1, spl_mid _ _ _ _ (by rw [List.length_take, hZk, hz]; omega) _ hA.symm, ← List.append_assoc]
  rw [spl_mid _ _ _ _ (by rw [List.length_drop, hZk, hC]; omega) _ (by rw [List.length_append, hA, hz, Nat.succ_mul])]

theorem zeroCells_len (z : Array Value) (n : Nat) : (Builtin.zeroCells z n).toList.length = n * z.size := by simp [Builtin.zeroCells]

end Go.Proofs.YtjedikaidbobdaaGreatDoor

/- A block of two cells that is written whole: the result of a function that hands back a struct of two fields. -/
namespace Go.Proofs.YtjedikaidbobdaaGreatDoor
open Go.RowKit

theorem store2 {W : World} {g : Nat} {a b : Value} {T : TypeId} (x y : Value) (h : W.heap[g]? = some (.cells #[a, b] T (0, 0))) :
    W.cell? ⟨g, 0, none⟩ = some a ∧ W.cell? ⟨g, 1, none⟩ = some b ∧ W.frozen? ⟨g, 0, none⟩ = false ∧ W.frozen? ⟨g, 1, none⟩ = false ∧
    Hid (((W.setCell ⟨g, 0, none⟩ x).setCell ⟨g, 1, none⟩ y).heap[g]? = some (.cells #[x, y] T (0, 0))) ∧ Hid (Chg [g] W ((W.setCell ⟨g, 0, none⟩ x).setCell ⟨g, 1, none⟩ y)) := by
  obtain ⟨h0, h1⟩ := two_cells h
  have x0 : (W.setCell ⟨g, 0, none⟩ x).heap[g]? = some (.cells #[x, b] T (0, 0)) := heap_setCell_same _ g 0 _ _ _ h
  have x1 : ((W.setCell ⟨g, 0, none⟩ x).setCell ⟨g, 1, none⟩ y).heap[g]? = some (.cells #[x, y] T (0, 0)) := heap_setCell_same _ g 1 _ _ _ x0
  exact ⟨h0, h1, frozen_of_row _ _ _ _ _ h, frozen_of_row _ _ _ _ _ h, x1, (Chg.setCell _ (.inl (by simp)) _).trans (Chg.setCell _ (.inl (by simp)) _)⟩

end Go.Proofs.YtjedikaidbobdaaGreatDoor

/- A region that draws its order, reads, and calls what makes memory of its own: walked once in the text's order, over the class of the worlds in which nothing that lay has turned. No program in sight. -/
namespace Go.Proofs.YtjedikaidbobdaaGreatDoor
open Go.RowKit

/-- a later world in which all that lay in w0 lies as it lay -/
structure Later (w0 : World) where
  w : World
  h : Chg [] w0 w

instance (w0 : World) : Inhabited (Later w0) := ⟨⟨w0, Chg.refl _ _⟩⟩

theorem wp_region_later {P : Program} {id : Nat} {Q : Exit → Act → World → Prop} {a : Act} {w0 w : World} {l : List Oper} (hm : P.follows .mixedOrders = true) (hB : Region.lexB .any l.toArray = true) (hc : Chg [] w0 w)
    (h : wpQuiet P l.toArray (fun w' => ∃ p : Later w0, w' = p.w) (fun a' => ∀ w', (∃ p : Later w0, w' = p.w) → Q .normal a' w') l a) : (Code.region id l.toArray true).wp P Q a w :=
  wp_region_quiet (C := fun w' => ∃ p : Later w0, w' = p.w) hm hB ⟨⟨_, hc.trans (Chg.drew [] w)⟩, rfl⟩ (by simpa using h)

theorem later_cell {w0 : World} {a : Addr} {v : Value} (h : w0.cell? a = some v) : ∀ p : Later w0, p.w.cell? a = some v := fun p => p.h.cell h (by simp)
theorem later_heap {w0 : World} {k : Nat} {o : Obj} (h : w0.heap[k]? = some o) : ∀ p : Later w0, p.w.heap[k]? = some o := fun p => p.h.heap h (by simp)
theorem later_calls {P : Program} {f : FuncId} {args : Array Value} {w0 : World} {p : Later w0} {v : Value} (h : Calls P f args p.w fun e w' => e = .returned v ∧ Chg [] p.w w') :
    Calls P f args p.w fun e w'' => e = .returned v ∧ ∃ q : Later w0, w'' = q.w := h.mono fun _ _ ⟨he, hc⟩ => ⟨he, ⟨_, p.h.trans hc⟩, rfl⟩
theorem later_same {P : Program} {f : FuncId} {args : Array Value} {w0 : World} {p : Later w0} {v : Value} (h : Calls P f args p.w fun e w' => e = .returned v ∧ p.w = w') :
    Calls P f args p.w fun e w'' => e = .returned v ∧ ∃ q : Later w0, w'' = q.w := h.mono fun _ _ ⟨he, hc⟩ => ⟨he, p, hc.symm⟩

section
variable {P : Program} {ops : Array Oper} {Q : Exit → Act → World → Prop} {md : Region.Mode} {S : World → Prop}
/-- what the region's text says of operation i, asked at once -/
def takeB (md : Region.Mode) (ops : Array Oper) (listed : Array Bool) (i : Nat) : Bool := Region.noSelect ops && Region.free md ops listed i && (Region.ready md ops listed).contains i
/-- an operation that is passed over -/
theorem held_skip (i : Nat) {oi : Oper} {fuel : Nat} {listed : Array Bool} {a : Act} {w : World} (hi : ops[i]? = some oi) (hb : takeB md ops listed i = true) (hw : Region.wanted oi (yielded ops a.tmps) = false)
    (hQ : ∀ c a w, Q (.panic c) (a.put oi.dst undef) w → Q (.panic c) a w) (hS : S w) (h : wpAnyH P md ops Q S fuel (listed.setIfInBounds i true) (a.put oi.dst undef) w) : wpAnyH P md ops Q S (fuel + 1) listed a w := by
  simp only [takeB, Bool.and_eq_true] at hb
  exact wpAnyH_take hi hb.1.1 hb.1.2 hb.2 hQ (.inr ⟨hw, rfl⟩) hS h
/-- an operation that reads alone -/
theorem held_take (i : Nat) {oi : Oper} {v : Value} {fuel : Nat} {listed : Array Bool} {a : Act} {w : World} (hi : ops[i]? = some oi) (hb : takeB md ops listed i = true) (hw : Region.wanted oi (yielded ops a.tmps) = true)
    (hv : ∀ w, S w → (execOp a.eval oi).run P w = .ok (.value v) w)
    (hQ : ∀ c a w, Q (.panic c) (a.put oi.dst v) w → Q (.panic c) a w) (hS : S w) (h : wpAnyH P md ops Q S fuel (listed.setIfInBounds i true) (a.put oi.dst v) w) : wpAnyH P md ops Q S (fuel + 1) listed a w := by
  simp only [takeB, Bool.and_eq_true] at hb
  exact wpAnyH_take hi hb.1.1 hb.1.2 hb.2 hQ (.inl ⟨hw, hv⟩) hS h
/-- the same, with the lists behind the step told -/
theorem held_skip' (i d : Nat) {oi : Oper} {fuel : Nat} {listed listed' : Array Bool} {t t' : Array Value} {ds : List Deferred} {w : World} (hi : ops[i]? = some oi) (hd : oi.dst = some d) (hb : takeB md ops listed i = true) (hw : Region.wanted oi (yielded ops t) = false)
    (hQ : ∀ c a w, Q (.panic c) (a.put oi.dst undef) w → Q (.panic c) a w) (hS : S w) (hl : listed.setIfInBounds i true = listed') (ht : t.setIfInBounds d undef = t') (h : wpAnyH P md ops Q S fuel listed' ⟨t', ds⟩ w) : wpAnyH P md ops Q S (fuel + 1) listed ⟨t, ds⟩ w :=
  held_skip i hi hb hw hQ hS (by rw [hl, hd]; subst ht; exact h)
theorem held_take' (i d : Nat) {oi : Oper} {v : Value} {fuel : Nat} {listed listed' : Array Bool} {t t' : Array Value} {ds : List Deferred} {w : World} (hi : ops[i]? = some oi) (hd : oi.dst = some d) (hb : takeB md ops listed i = true) (hw : Region.wanted oi (yielded ops t) = true)
    (hv : ∀ w, S w → (execOp (Act.eval ⟨t, ds⟩) oi).run P w = .ok (.value v) w)
    (hQ : ∀ c a w, Q (.panic c) (a.put oi.dst v) w → Q (.panic c) a w) (hS : S w) (hl : listed.setIfInBounds i true = listed') (ht : t.setIfInBounds d v = t') (h : wpAnyH P md ops Q S fuel listed' ⟨t', ds⟩ w) : wpAnyH P md ops Q S (fuel + 1) listed ⟨t, ds⟩ w :=
  held_take i hi hb hw hv hQ hS (by rw [hl, hd]; subst ht; exact h)
/-- the one operation that may come up; what follows stands behind a letter -/
theorem held_one (i : Nat) {oi : Oper} {fuel : Nat} {listed : Array Bool} {a : Act} {w : World} (hi : ops[i]? = some oi) (hr : Region.ready md ops listed = [i]) (hw : Region.wanted oi (yielded ops a.tmps) = true)
    (h : ∀ K : Act → World → Prop, Shut (∀ a w, S w → wpAnyH P md ops Q S fuel (listed.setIfInBounds i true) a w → K a w) → Oper.wp P oi a w K Q) : wpAnyH P md ops Q S (fuel + 1) listed a w :=
  wpAnyH_all hr (by simp) (fun j hj => by
    obtain rfl := List.mem_singleton.1 hj
    unfold wpOp
    simp only [hi, hw, if_true]
    exact .inl (h _ (fun a w hS h => ⟨hS, h⟩)))
theorem region_held {id : Nat} {a : Act} {w : World} (hm : P.follows .mixedOrders = true) {n : Nat} (hn : ops.size = n) {l : Array Bool} (hl : Array.replicate n false = l)
    (h : wpAnyH P .any ops Q S n l a w.drew) : (Code.region id ops true).wp P Q a w := by
  subst hn hl
  exact wp_region_held hm h
end

end Go.Proofs.YtjedikaidbobdaaGreatDoor

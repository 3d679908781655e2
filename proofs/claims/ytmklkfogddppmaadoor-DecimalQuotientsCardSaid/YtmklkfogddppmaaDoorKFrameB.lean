/- Frames and rows: words of our own on worlds; no program in sight. -/
import Derived.WalkKit
import Derived.Handy
import Derived.WalkLawsBesides
import Derived.WalkSpells
import Derived.Laws.BytesArg
import Derived.Deep.Draws
namespace Go.Proofs.YtmklkfogddppmaaDoor
open Go.RowKit

/-- A fact kept from the walk. -/
theorem hid {p : Prop} (h : p) : Hid p := h

theorem ret_bool {a b : Bool} (h : b = a) : Ending.returned (.bool a) = Ending.returned (.bool b) := by rw [h]
theorem ret_int {k : IntKind} {a b : Int} (h : b = a) : Ending.returned (.int k a) = Ending.returned (.int k b) := by rw [h]

/-- What lay when w stood lies as it lay, but for the blocks of L. -/
structure Chg (L : List Nat) (w w' : World) : Prop where
  os : w'.os = w.os
  tape : w'.tape = w.tape
  output : w'.output = w.output
  size : w.heap.size ≤ w'.heap.size
  block : ∀ k, k < w.heap.size → k ∉ L → w'.heap[k]? = w.heap[k]?

theorem Chg.refl (L : List Nat) (w : World) : Chg L w w := ⟨rfl, rfl, rfl, Nat.le_refl _, fun _ _ _ => rfl⟩
theorem Chg.trans {L : List Nat} {a b c : World} (h : Chg L a b) (k : Chg L b c) : Chg L a c :=
  ⟨k.os.trans h.os, k.tape.trans h.tape, k.output.trans h.output, Nat.le_trans h.size k.size,
   fun i hi hn => (k.block i (Nat.lt_of_lt_of_le hi h.size) hn).trans (h.block i hi hn)⟩
theorem Chg.weaken {L M : List Nat} {a b : World} (h : Chg L a b) (hs : ∀ k, k < a.heap.size → k ∈ L → k ∈ M) : Chg M a b :=
  ⟨h.os, h.tape, h.output, h.size, fun i hi hn => h.block i hi (fun e => hn (hs i hi e))⟩
theorem Chg.alloc (L : List Nat) (w : World) (o : Obj) : Chg L w (w.alloc o) := ⟨rfl, rfl, rfl, by simp, fun k hk _ => Below.heap_alloc w o k hk⟩
theorem Chg.drew (L : List Nat) (w : World) : Chg L w w.drew := ⟨rfl, rfl, rfl, Nat.le_refl _, fun _ _ _ => rfl⟩
theorem Chg.setCell {L : List Nat} (w : World) {p : Addr} (hp : p.block ∈ L ∨ w.heap.size ≤ p.block) (u : Value) : Chg L w (w.setCell p u) :=
  ⟨rfl, rfl, rfl, by simp, fun k hk hn => Below.heap_setCell _ _ _ _ (fun e => by rcases hp with hp | hp; exact hn (e ▸ hp); omega)⟩
theorem Chg.of_below {w w' : World} (h : Below w.heap.size w w') (L : List Nat) : Chg L w w' :=
  ⟨h.os, h.tape, h.output, h.size, fun k hk _ => h.block k hk⟩
theorem Chg.of_grownBy {w w' : World} {row : Option Nat} (h : w.grownBy w' row) {L : List Nat} (hr : ∀ k, row = some k → k ∈ L ∨ w.heap.size ≤ k) : Chg L w w' :=
  ⟨h.os, h.tape, h.output, h.size, fun k hk hn => h.block k hk (fun e => by rcases hr k e.symm with h1 | h1; exact hn h1; omega)⟩
theorem Chg.below {L : List Nat} {w w' : World} (h : Chg L w w') {B : Nat} (hB : B ≤ w.heap.size) (hL : ∀ k ∈ L, B ≤ k) : Below B w w' :=
  ⟨h.os, h.tape, h.output, h.size, fun k hk => h.block k (by omega) (fun e => by have := hL k e; omega)⟩
theorem Chg.nil_below {w w' : World} (h : Chg [] w w') : Below w.heap.size w w' := h.below (Nat.le_refl _) (by simp)
theorem Chg.cell {L : List Nat} {w w' : World} (h : Chg L w w') {a : Addr} {v : Value} (hc : w.cell? a = some v) (hn : a.block ∉ L) : w'.cell? a = some v :=
  (World.cell?_of_block (h.block a.block (World.block_lt_of_cell? w a hc) hn)).trans hc
theorem Chg.heap {L : List Nat} {w w' : World} (h : Chg L w w') {k : Nat} {o : Obj} (hc : w.heap[k]? = some o) (hn : k ∉ L) : w'.heap[k]? = some o :=
  (h.block k (lt_of_block hc) hn).trans hc
/-- behind two steps of which the second writes new blocks of the first alone -/
theorem Chg.then {L M : List Nat} {a b c : World} (h : Chg L a b) (k : Chg M b c) (hM : ∀ i, i ∈ M → i < a.heap.size → i ∈ L) : Chg L a c :=
  ⟨k.os.trans h.os, k.tape.trans h.tape, k.output.trans h.output, Nat.le_trans h.size k.size,
   fun i hi hn => (k.block i (Nat.lt_of_lt_of_le hi h.size) (fun e => hn (hM i e hi))).trans (h.block i hi hn)⟩

/-- A byte as a cell holds it. -/
def eb (x : UInt8) : Value := .int .u8 (x.toNat : Int)
/-- An int as a cell holds it. -/
def ei (x : Int) : Value := .int .i64 x

/-- The slice value v reads as the bytes xs in w. -/
def Reads (w : World) (v : Value) (xs : List UInt8) : Prop :=
  ∃ a cap, v = .slice a xs.length cap ∧ xs.length ≤ cap ∧ cap ≤ maxLen ∧ (a = none → xs = []) ∧
    ∀ x, a = some x → x.spot = none ∧ ∀ i (h : i < xs.length), w.cell? ⟨x.block, x.off + i, none⟩ = some (eb xs[i])

theorem Reads.keep {w w' : World} {v : Value} {xs : List UInt8} (h : Reads w v xs) {L : List Nat} (hc : Chg L w w') (hL : ∀ k ∈ L, w.heap.size ≤ k) : Reads w' v xs := by
  obtain ⟨a, cap, hv, h1, h2, h3, h4⟩ := h
  refine ⟨a, cap, hv, h1, h2, h3, fun x hx => ⟨(h4 x hx).1, fun i hi => ?_⟩⟩
  have hcell := (h4 x hx).2 i hi
  refine hc.cell hcell (fun e => ?_)
  have h5 := hL _ e
  have h6 := World.block_lt_of_cell? w _ hcell
  simp only at h5 h6
  omega

theorem Reads.below {w w' : World} {v : Value} {xs : List UInt8} (h : Reads w v xs) (hb : Below w.heap.size w w') : Reads w' v xs :=
  h.keep (Chg.of_below hb []) (by simp)


theorem ofNat_toNat_u8 (x : UInt8) : UInt8.ofNat ((x.toNat : Int)).toNat = x := by simp
theorem strOfNums_map (xs : List UInt8) : strOfNums (xs.map fun x => (x.toNat : Int)) = ⟨xs.toArray⟩ := by
  simp only [strOfNums, List.map_map]
  congr 2
  conv => rhs; rw [← List.map_id xs]
  exact List.map_congr_left fun x _ => ofNat_toNat_u8 x

/-- A slice of bytes as a string. -/
theorem Reads.str {P : Program} {w : World} {v : Value} {xs : List UInt8} (h : Reads w v xs) (src dst e : TypeId) (hs : P.underlying src = some (.slice e)) (he : P.underlying e = some (.int .u8)) (hd : P.underlying dst = some .string) :
    (convert src dst v).run P w = .ok (.string ⟨xs.toArray⟩) w := by
  obtain ⟨a, cap, rfl, _, _, h3, h4⟩ := h
  cases a with
  | none =>
    have := h3 rfl; subst this
    exact run_convert_bytes_nil w src e hs he _ _ dst hd
  | some x =>
    obtain ⟨hx, hc⟩ := h4 x rfl
    obtain ⟨b, off, spot⟩ := x
    simp only at hx; subst hx
    rw [run_convert_bytes_arg w src e hs he b off xs.length cap (xs.map fun x => (x.toNat : Int)) (by simp) (fun i hi => by
      rw [hc i hi]; simp [eb, hi]) dst hd, strOfNums_map]

theorem Reads.len_le {w : World} {v : Value} {xs : List UInt8} (h : Reads w v xs) : xs.length ≤ maxLen := by
  obtain ⟨a, cap, _, h1, h2, _⟩ := h; omega

/-- What the call owns can be read. -/
theorem Reads.of_own {w : World} {base e : Nat} {v : Value} {xs : List UInt8} (h : w.ownsRow base e 1 v xs.length (xs.map eb)) : Reads w v xs := by
  rcases h.2 with ⟨rfl, hn⟩ | ⟨g, cap, cur, rfl, _, hg, hnc, hcm, _, htake⟩
  · have : xs = [] := List.eq_nil_of_length_eq_zero hn
    subst this
    exact ⟨none, 0, rfl, Nat.le_refl _, Nat.zero_le _, (fun _ => rfl), (fun x hx => by cases hx)⟩
  · refine ⟨some ⟨g, 0, none⟩, cap, rfl, hnc, hcm, (fun h => by cases h), fun x hx => ?_⟩
    cases hx
    refine ⟨rfl, fun i hi => ?_⟩
    have h1 : (xs.map eb)[i]? = some (eb xs[i]) := by simp [hi]
    rw [← htake, List.getElem?_take] at h1
    rw [Nat.zero_add, cell_of_row w g i cur e (0, 0) hg]
    split at h1
    · simpa using h1
    · cases h1

theorem Reads.nil (w : World) : Reads w (.slice none 0 0) [] := ⟨none, 0, rfl, Nat.le_refl _, Nat.zero_le _, (fun _ => rfl), (fun x hx => by cases hx)⟩

theorem al_new {w : World} {o : Obj} {k : Nat} (h : k = w.heap.size) : (w.alloc o).heap[k]? = some o := by subst h; exact heap_alloc_new w o
theorem al_old {w : World} {o o' : Obj} {k : Nat} (h : w.heap[k]? = some o') : (w.alloc o).heap[k]? = some o' := (Below.heap_alloc w o k (lt_of_block h)).trans h

/-- a row of n zero bytes -/
def zrow (n : Nat) : Array Value := (List.replicate n (eb 0)).toArray
theorem zrow_toList (n : Nat) : (zrow n).toList = (List.replicate n (0 : UInt8)).map eb := by simp [zrow]
theorem zrow_eq (n : Nat) : zrow n = ((List.replicate n (0 : UInt8)).map eb).toArray := by simp [zrow]
theorem zrow_size (n : Nat) : (zrow n).size = n := by simp [zrow]

/-- make([]byte, n) -/
theorem mk_bytes {P : Program} (t e : TypeId) (ht : P.underlying t = some (.slice e)) (hi : (P.info? e).map (fun i => (i.zero, i.size, i.bytes)) = some (some (.int .u8 0), 1, 1)) (n : Nat) (hn : n ≤ 1000000) (w : World) :
    (Instr.makeSlice t (.int .i64 (n : Int)) (.int .i64 (n : Int))).run P w = .ok (.slice (some ⟨w.heap.size, 0, none⟩) n n) (w.alloc (.cells (zrow n) e)) := by
  obtain ⟨i, h1, h2, h3, h4⟩ := info_parts hi
  rw [run_make w t e i _ ht h1 h2 .i64 .i64 n n (by omega) (Int.le_refl _) (by rw [h4]; omega) (by omega)]
  simp only [Int.toNat_natCast, h3, Nat.mul_one]
  congr 3
  apply Array.toList_inj.1
  rw [show (Value.int .u8 0).cells = #[Value.int .u8 0] from rfl, toList_madeCells_one, zrow]
  rfl

end Go.Proofs.YtmklkfogddppmaaDoor

/- Rows of bytes, more. -/
namespace Go.Proofs.YtmklkfogddppmaaDoor
open Go.RowKit

/-- byte i as a number -/
def bN (b : List UInt8) (i : Nat) : Nat := (b.getD i 0).toNat
theorem bN_lt (b : List UInt8) (i : Nat) : bN b i < 256 := UInt8.toNat_lt _
theorem bN_get (b : List UInt8) (i : Nat) (h : i < b.length) : bN b i = (b[i]).toNat := by
  unfold bN; rw [List.getD_eq_getElem?_getD, List.getElem?_eq_getElem h]; rfl

/-- A slice that reads as bytes, taken apart: of length 0, or its cells one by one. -/
theorem Reads.parts {w : World} {v : Value} {xs : List UInt8} (h : Reads w v xs) {L : Nat} (hL : xs.length = L) :
    (xs = [] ∧ L = 0 ∧ ∃ a cap, v = .slice a 0 cap) ∨
    ∃ bb off cap, v = .slice (some ⟨bb, off, none⟩) L cap ∧ 1 ≤ L ∧ L ≤ cap ∧ cap ≤ 9223372036854775807 ∧ Hid (∀ i, i < L → w.cell? ⟨bb, off + i, none⟩ = some (.int .u8 (bN xs i : Nat))) := by
  subst hL
  obtain ⟨a, cap, rfl, h1, h2, h3, h4⟩ := h
  by_cases h0 : xs = []
  · subst h0; exact .inl ⟨rfl, rfl, a, cap, rfl⟩
  · cases a with
    | none => exact absurd (h3 rfl) h0
    | some x =>
      obtain ⟨hs, hc⟩ := h4 x rfl
      obtain ⟨bb, off, spot⟩ := x
      simp only at hs; subst hs
      refine .inr ⟨bb, off, cap, rfl, List.length_pos_iff.2 h0, h1, by unfold maxLen at h2; omega, fun i hi => ?_⟩
      rw [hc i hi, bN_get xs i hi]; rfl

theorem Reads.shape {w : World} {v : Value} {xs : List UInt8} (h : Reads w v xs) {L : Nat} (hL : xs.length = L) : ∃ a cap, v = .slice a L cap := by
  subst hL; obtain ⟨a, cap, hv, _⟩ := h; exact ⟨a, cap, hv⟩

theorem two_cells {w : World} {g : Nat} {a b : Value} {t : TypeId} {fr : Nat × Nat} (h : w.heap[g]? = some (.cells #[a, b] t fr)) : w.cell? ⟨g, 0, none⟩ = some a ∧ w.cell? ⟨g, 1, none⟩ = some b := by
  rw [cell_of_row w g 0 _ t fr h, cell_of_row w g 1 _ t fr h]; exact ⟨rfl, rfl⟩

theorem Chg.drewN {L : List Nat} {w w' : World} (h : Chg L w w') (n : Nat) : Chg L w (w'.drewN n) := ⟨h.os, h.tape, h.output, h.size, h.block⟩
theorem ret_vb {v : Value} {a b : Bool} (h : b = a) : Ending.returned (.tuple #[v, .bool a]) = Ending.returned (.tuple #[v, .bool b]) := by rw [h]

end Go.Proofs.YtmklkfogddppmaaDoor

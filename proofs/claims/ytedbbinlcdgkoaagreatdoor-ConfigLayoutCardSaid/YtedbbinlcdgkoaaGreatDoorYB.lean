import Derived.Lib.Join
import Derived.Lib.Case
import Derived.Lib.ItoaNum
import Derived.LoopN
import Derived.Outline
import Derived.WalkMore
import Derived.Test.YtedbbinlcdgkoaaGreatDoorVZ
import Derived.Test.YtedbbinlcdgkoaaGreatDoorQS
import Derived.Test.YtedbbinlcdgkoaaGreatDoorQX
import Derived.Test.YtedbbinlcdgkoaaGreatDoorYG
/- strings.Join, strconv.Itoa, strings.ToUpper, strconv.FormatInt in base 16. -/
namespace Go.Proofs.YtedbbinlcdgkoaaGreatDoor
open Go.RowKit Go.Lib
-- FUSE
-- LESS
set_option linter.unusedVariables false
set_option linter.unusedSimpArgs false
theorem join_eq : ∀ l : List Bs, Lib.join l [32] = joinW l
  | [] => rfl
  | [x] => by show ([x].intersperse [32]).flatten = x; simp
  | x :: y :: r => by
    have ih := join_eq (y :: r)
    unfold Lib.join at ih ⊢
    rw [joinW, ← ih]
    show ((x :: y :: r).intersperse [32]).flatten = _
    simp [List.intercalate, List.intersperse]
theorem join_bound : ∀ (l : List Bs) (k : Nat), (∀ x ∈ l, x.length ≤ k) → (joinW l).length ≤ l.length * (k + 1)
  | [], k, _ => by simp [joinW]
  | [x], k, h => by have := h x List.mem_cons_self; simp only [joinW, List.length_cons, List.length_nil]; omega
  | x :: y :: r, k, h => by
    have ih := join_bound (y :: r) k fun z hz => h z (List.mem_cons_of_mem _ hz)
    have := h x List.mem_cons_self
    rw [joinW, List.length_append, List.length_cons]
    simp only [List.length_cons] at ih ⊢
    rw [Nat.succ_mul (r.length + 1) (k + 1)]
    omega
theorem flat_str (l : List Bs) : (l.map strR).flatten = l.map V.str := by
  induction l with
  | nil => rfl
  | cons a q ih => rw [List.map_cons, List.flatten_cons, ih]; rfl
theorem Join_spec (l : List Bs) (h1 : l ≠ []) (h2 : l.length ≤ 100) (h3 : ∀ x ∈ l, x.length ≤ 100000) : Spec Tryz.prog 59 [.sl 1 (l.map strR), .str [32]] (.str (joinW l)) := by
  refine ⟨⟨_, Tryz.func59, rfl, by decide⟩, rfl, fun M w vs hM hG hv => ?_⟩
  obtain ⟨u, v, rfl, g1, g2⟩ := repL2 hv
  cases g2
  obtain ⟨a, cap, rfl, c1, c2, c3, c4, c5, c6⟩ := g1
  rw [List.length_map] at c1 ⊢
  cases a with
  | none => exact absurd (List.map_eq_nil_iff.1 (c3 rfl)) h1
  | some x =>
    obtain ⟨p1, p2⟩ := c6 x rfl
    have hsp := p1 (by simpa using h1)
    obtain ⟨bk, o, sp⟩ := x
    simp only at hsp p2
    subst hsp
    have hfl := flat_str l
    have hat := AtR.flat.1 p2
    rw [hfl] at hat
    have hcells : ∀ (j : Nat) (y : ByteArray), (l.map fun z => (⟨z.toArray⟩ : ByteArray))[j]? = some y → w.cell? ⟨bk, o + j, none⟩ = some (.string y) := fun j y hy => by
      rw [List.getElem?_map] at hy
      cases hj : l[j]? with
      | none => rw [hj] at hy; cases hy
      | some z =>
        rw [hj, Option.map_some] at hy
        injection hy with hy; subst hy
        have hl : j < (l.map V.str).length := by rw [List.length_map]; exact (List.getElem?_eq_some_iff.1 hj).1
        obtain ⟨_, cc, q1, q2, q3⟩ := hat.get j hl
        have hz : (l.map V.str)[j] = V.str z := by rw [List.getElem_map]; congr 1; exact (List.getElem?_eq_some_iff.1 hj).2
        rw [hz] at q3
        have q3 : cc = .string ⟨z.toArray⟩ := q3
        subst q3
        exact q1
    have hbk : bk < w.heap.size := by
      cases l with
      | nil => exact absurd rfl h1
      | cons z r => exact World.block_lt_of_cell? w _ (hcells 0 _ rfl)
    have hmap : (l.map fun z => (⟨z.toArray⟩ : ByteArray)).map (·.data.toList) = l := by
      rw [List.map_map]
      have : ((fun x : ByteArray => x.data.toList) ∘ fun z : Bs => (⟨z.toArray⟩ : ByteArray)) = id := by funext z; rfl
      rw [this, List.map_id]
    have hb := join_bound l 100000 h3
    have hb2 : l.length * (100000 + 1) ≤ 100 * 100001 := Nat.mul_le_mul_right _ h2
    have hcall := Tryz.strings_Join bk o cap (l.map fun z => (⟨z.toArray⟩ : ByteArray)) ⟨[32].toArray⟩ w hcells hbk (by rw [List.length_map]; omega) (by rw [List.length_map]; exact c1) (by
      rw [hmap]
      show (Lib.join l [32]).length ≤ _
      rw [join_eq]; omega)
    rw [List.length_map, hmap] at hcall
    refine hcall.mono ?_
    rintro e w' ⟨rfl, hbl⟩
    refine ⟨_, rfl, Chg.of_below hbl [], ?_⟩
    show Value.string ⟨(Lib.join l [32]).toArray⟩ = Value.string ⟨(joinW l).toArray⟩
    rw [join_eq]
theorem below_grown (w : World) (k : Nat) (os : Array Obj) : Below w.heap.size w (Sort.grow (w.drewN k) os) :=
  ⟨rfl, rfl, rfl, by show w.heap.size ≤ (w.heap ++ os).size; simp, fun j hj => by show (w.heap ++ os)[j]? = _; simp [Array.getElem?_append, hj]⟩
theorem Itoa_spec (n : Nat) (hn : n ≤ 1000000000) : Spec Tryz.prog 37 [.int .i64 (n : Int)] (.str (decDigits n)) := by
  refine spec_lib Tryz.func37 rfl (by decide) rfl fun S w vs hG hv => ?_
  obtain ⟨u, rfl, h1⟩ := repL1 hv
  cases h1
  obtain ⟨_, ⟨t, z, ht⟩, _⟩ := hG
  refine (Tryz.strconv_Itoa (n : Int) (by omega) (by omega) w ?_).mono ?_
  · unfold Lib.TabIs World.var?
    have hg : Tryz.prog.globalNamed "internal/strconv.uint64pow10" = some tB := by kernel_rfl
    rw [hg]
    simp only [Option.bind_some, ht]
  · rintro e w' ⟨rfl, k, os, rfl⟩
    refine ⟨_, rfl, Chg.of_below (below_grown w k os) [], fun S' => ?_⟩
    show Value.string _ = Value.string _
    have : Lib.itoa (n : Int) = decDigits n := by unfold Lib.itoa; rw [if_neg (by omega)]; rfl
    rw [this]
theorem Itoa_int (n : Int) (h0 : 0 ≤ n) (hn : n ≤ 1000000000) : Spec Tryz.prog 37 [.int .i64 n] (.str (decI n)) := by
  have := Itoa_spec n.toNat (by omega)
  rw [Int.toNat_of_nonneg h0] at this
  exact this
theorem ToUpper_spec (s : Bs) (hs : s.length ≤ 1000000) (ha : ∀ c ∈ s, c.toNat < 128) : Spec Tryz.prog 38 [.str s] (.str (Lib.toUpperA s)) := by
  refine spec_lib Tryz.func38 rfl (by decide) rfl fun S w vs hG hv => ?_
  obtain ⟨u, rfl, h1⟩ := repL1 hv
  cases h1
  refine (Tryz.strings_ToUpper_ascii ⟨s.toArray⟩ w (by show s.length ≤ _; omega) (fun j b hb => ha b (List.mem_of_getElem? hb))).mono ?_
  rintro e w' ⟨rfl, hb⟩
  exact ⟨_, rfl, Chg.of_below hb [], fun S' => rfl⟩
theorem upper_low : ∀ n < 1024, Lib.toUpperA (49 :: low3 n) = 49 :: hex3 n ∧ (49 :: low3 n).all (fun c => decide (c.toNat < 128)) = true := by decide +kernel
theorem FormatInt_spec (n : Nat) (hn : n < 1024) : Spec Tryz.prog 39 [.int .i64 (4096 + (n : Int)), .int .i64 16] (.str (49 :: low3 n)) := by
  refine spec_lib Tryz.func39 rfl (by decide) rfl fun S w vs hG hv => ?_
  obtain ⟨u, v, rfl, h1, h2⟩ := repL2 hv
  cases h1; cases h2
  obtain ⟨_, _, hd, _⟩ := hG
  refine (FormatI_any n hn w hd).mono ?_
  rintro e w' ⟨rfl, hb⟩
  exact ⟨_, rfl, Chg.of_below hb [], fun S' => rfl⟩
theorem flat_snoc {α : Type} (f : α → Bs) (l : List α) {k : Nat} (h : k < l.length) : ((l.take (k + 1)).map f).flatten = ((l.take k).map f).flatten ++ f l[k] := by
  rw [List.take_succ_eq_append_getElem h, List.map_append, List.flatten_append]; simp
theorem print_parts (c : CfgT) : printT c = lineW (storeW c.store) ++ (c.ps.map fun p => lineW (partW p)).flatten ++ (c.us.map fun u => lineW (unitW u)).flatten := by
  unfold printT linesC
  rw [List.map_cons, List.flatten_cons, List.map_append, List.flatten_append, List.map_map, List.map_map, List.append_assoc]
  rfl
theorem flat_bound {α : Type} (f : α → Bs) (m : Nat) : ∀ (l : List α), (∀ x ∈ l, (f x).length ≤ m) → ((l.map f).flatten).length ≤ l.length * m
  | [], _ => by simp
  | x :: l, h => by
    have ih := flat_bound f m l fun y hy => h y (List.mem_cons_of_mem _ hy)
    have := h x List.mem_cons_self
    rw [List.map_cons, List.flatten_cons, List.length_append, List.length_cons, Nat.succ_mul]; omega
theorem take_bound {α : Type} (f : α → Bs) (m : Nat) (l : List α) (k : Nat) (h : ∀ x ∈ l, (f x).length ≤ m) : (((l.take k).map f).flatten).length ≤ l.length * m := by
  refine Nat.le_trans (flat_bound f m (l.take k) fun x hx => h x (List.mem_of_mem_take hx)) ?_
  exact Nat.mul_le_mul_right _ (by rw [List.length_take]; omega)
end Go.Proofs.YtedbbinlcdgkoaaGreatDoor

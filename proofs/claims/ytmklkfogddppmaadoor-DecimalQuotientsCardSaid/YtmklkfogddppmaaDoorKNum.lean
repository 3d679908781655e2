/- The numbers of jobshop/decimal: two words and a sign. -/
import Derived.Test.YtmklkfogddppmaaDoorShelf
import Derived.Shelf.Spec.BitsCarry
import Derived.Shelf.Bits.Mul64
import Derived.Lib.Walk
import Derived.Deep.DeepCutAuto
import Derived.Deep.CutBlock
import Derived.WalkKit
import Derived.BigCall
import Derived.BigGuard
import Derived.Test.YtmklkfogddppmaaDoorKDiv64
import Derived.Test.YtmklkfogddppmaaDoorKAgg
import Derived.Test.YtmklkfogddppmaaDoorKDecA
namespace Go.Proofs.YtmklkfogddppmaaDoor
open Go.RowKit Go.Shelf
set_option linter.unusedVariables false
set_option linter.unusedSimpArgs false

/-- the value of a number: its sign, its two words -/
def num (neg : Bool) (v : Nat) : Value := .agg #[.bool neg, .int .u64 ((v / 18446744073709551616 : Nat) : Int), .int .u64 ((v % 18446744073709551616 : Nat) : Int)]
theorem num_of (neg : Bool) (hi lo v : Nat) (hl : lo < 18446744073709551616) (h : v = hi * 18446744073709551616 + lo) : num neg v = .agg #[.bool neg, .int .u64 (hi : Int), .int .u64 (lo : Int)] := by
  subst h
  have e1 : (hi * 18446744073709551616 + lo) / 18446744073709551616 = hi := by omega
  have e2 : (hi * 18446744073709551616 + lo) % 18446744073709551616 = lo := by omega
  unfold num; rw [e1, e2]
theorem num_parts (neg : Bool) (v : Nat) (hv : v < 340282366920938463463374607431768211456) : ∃ hi lo : Nat, hi < 18446744073709551616 ∧ lo < 18446744073709551616 ∧ v = hi * 18446744073709551616 + lo ∧ num neg v = .agg #[.bool neg, .int .u64 (hi : Int), .int .u64 (lo : Int)] :=
  ⟨v / 18446744073709551616, v % 18446744073709551616, by omega, by omega, by omega, rfl⟩

theorem three_cells {w : World} {g : Nat} {a b c : Value} {t : TypeId} {fr : Nat × Nat} (h : w.heap[g]? = some (.cells #[a, b, c] t fr)) : w.cell? ⟨g, 0, none⟩ = some a ∧ w.cell? ⟨g, 1, none⟩ = some b ∧ w.cell? ⟨g, 2, none⟩ = some c := by
  constructor
  · simp [World.cell?, h]
  · constructor <;> simp [World.cell?, h]
theorem store3 {W : World} {g : Nat} {a b c : Value} {T : TypeId} (x y z : Value) (h : W.heap[g]? = some (.cells #[a, b, c] T (0, 0))) :
    W.cell? ⟨g, 0, none⟩ = some a ∧ W.cell? ⟨g, 1, none⟩ = some b ∧ W.cell? ⟨g, 2, none⟩ = some c ∧ W.frozen? ⟨g, 0, none⟩ = false ∧ W.frozen? ⟨g, 1, none⟩ = false ∧ W.frozen? ⟨g, 2, none⟩ = false ∧
    Hid ((((W.setCell ⟨g, 0, none⟩ x).setCell ⟨g, 1, none⟩ y).setCell ⟨g, 2, none⟩ z).heap[g]? = some (.cells #[x, y, z] T (0, 0))) ∧ Hid (Chg [g] W (((W.setCell ⟨g, 0, none⟩ x).setCell ⟨g, 1, none⟩ y).setCell ⟨g, 2, none⟩ z)) := by
  have x0 : (W.setCell ⟨g, 0, none⟩ x).heap[g]? = some (.cells #[x, b, c] T (0, 0)) := heap_setCell_same _ g 0 _ _ _ h
  have x1 : ((W.setCell ⟨g, 0, none⟩ x).setCell ⟨g, 1, none⟩ y).heap[g]? = some (.cells #[x, y, c] T (0, 0)) := heap_setCell_same _ g 1 _ _ _ x0
  have x2 : (((W.setCell ⟨g, 0, none⟩ x).setCell ⟨g, 1, none⟩ y).setCell ⟨g, 2, none⟩ z).heap[g]? = some (.cells #[x, y, z] T (0, 0)) := heap_setCell_same _ g 2 _ _ _ x1
  exact ⟨(three_cells h).1, (three_cells h).2.1, (three_cells h).2.2, frozen_of_row _ _ _ _ _ h, frozen_of_row _ _ _ _ _ h, frozen_of_row _ _ _ _ _ h, x2,
    ((Chg.setCell _ (.inl (by simp)) _).trans (Chg.setCell _ (.inl (by simp)) _)).trans (Chg.setCell _ (.inl (by simp)) _)⟩

theorem add64 (x y c : Nat) (hc : c ≤ 1) (w : World) :
    (callFunc 71 #[.int .u64 x, .int .u64 y, .int .u64 c]).run Tryd.prog w =
      .ok (.value (.tuple #[.int .u64 (((x + y + c) % 18446744073709551616 : Nat) : Int), .int .u64 (((x + y + c) / 18446744073709551616 : Nat) : Int)])) w := by
  rw [run_callFunc_extern Tryd.func71 (by kernel_rfl) (by kernel_rfl) (by kernel_rfl) (e := add64Entry) (by kernel_rfl), run_add64 x y c (by omega) (by omega) (by omega) (by omega)]
  simp only [Result.andThen]
  congr 5 <;> omega
theorem sub64 (x y b : Nat) (hb : b ≤ 1) (w : World) :
    (callFunc 73 #[.int .u64 x, .int .u64 y, .int .u64 b]).run Tryd.prog w =
      .ok (.value (.tuple #[.int .u64 (((x + 18446744073709551616 - y - b) % 18446744073709551616 : Nat) : Int), .int .u64 ((if x < y + b then 1 else 0 : Nat) : Int)])) w := by
  rw [run_callFunc_extern Tryd.func73 (by kernel_rfl) (by kernel_rfl) (by kernel_rfl) (e := sub64Entry) (by kernel_rfl), run_sub64 x y b hb]
  rfl

theorem add64z (x y : Nat) (w : World) :
    (callFunc 71 #[.int .u64 x, .int .u64 y, .int .u64 0]).run Tryd.prog w =
      .ok (.value (.tuple #[.int .u64 (((x + y) % 18446744073709551616 : Nat) : Int), .int .u64 (((x + y) / 18446744073709551616 : Nat) : Int)])) w := add64 x y 0 (by omega) w
theorem sub64z (x y : Nat) (w : World) :
    (callFunc 73 #[.int .u64 x, .int .u64 y, .int .u64 0]).run Tryd.prog w =
      .ok (.value (.tuple #[.int .u64 (((x + 18446744073709551616 - y) % 18446744073709551616 : Nat) : Int), .int .u64 ((if x < y then 1 else 0 : Nat) : Int)])) w := sub64 x y 0 (by omega) w

theorem zero_any (neg : Bool) (hi lo : Nat) (w : World) :
    Calls Tryd.prog 36 #[.agg #[.bool neg, .int .u64 (hi : Int), .int .u64 (lo : Int)]] w fun e w' => e = .returned (.bool (decide (hi = 0 ∧ lo = 0))) ∧ Chg [] w w' := by
  by_cases h1 : hi = 0
  · have e1 : ((hi : Int) == 0) = true := by simp [h1]
    have e2 : ((lo : Int) == 0) = decide (lo = 0) := by rw [Bool.eq_iff_iff]; simp
    go_enter Tryd.func36, Tryd.ntmps36
    go_wp2
    go_returns
    exact ⟨ret_bool (by simp [h1]), Chg.alloc _ _ _⟩
  · have e1 : ((hi : Int) == 0) = false := beq_eq_false_iff_ne.2 (by omega)
    go_enter Tryd.func36, Tryd.ntmps36
    go_wp2
    go_returns
    exact ⟨ret_bool (by simp [h1]), Chg.alloc _ _ _⟩
theorem zero_num (neg : Bool) (v : Nat) (w : World) (hv : v < 340282366920938463463374607431768211456) :
    Calls Tryd.prog 36 #[num neg v] w fun e w' => e = .returned (.bool (decide (v = 0))) ∧ Chg [] w w' := by
  obtain ⟨hi, lo, h1, h2, rfl, e⟩ := num_parts neg v hv
  rw [e]
  refine (zero_any neg hi lo w).mono ?_
  rintro e w' ⟨rfl, hc⟩
  exact ⟨ret_bool (by congr 1; apply propext; omega), hc⟩

theorem less_any (n1 n2 : Bool) (h1 l1 h2 l2 : Nat) (w : World) :
    Calls Tryd.prog 72 #[.agg #[.bool n1, .int .u64 (h1 : Int), .int .u64 (l1 : Int)], .agg #[.bool n2, .int .u64 (h2 : Int), .int .u64 (l2 : Int)]] w fun e w' => e = .returned (.bool (decide (h1 < h2 ∨ h1 = h2 ∧ l1 < l2))) ∧ w' = (w.alloc (.cells #[.bool n1, .int .u64 (h1 : Int), .int .u64 (l1 : Int)] 43)).alloc (.cells #[.bool n2, .int .u64 (h2 : Int), .int .u64 (l2 : Int)] 43) := by
  by_cases g1 : h1 < h2
  · have e1 : (h1 : Int) < (h2 : Int) := by omega
    go_enter Tryd.func72, Tryd.ntmps72
    go_wp2
    go_returns
    exact ⟨ret_bool (by simp [g1]), rfl⟩
  · have e1 : ¬ (h1 : Int) < (h2 : Int) := by omega
    by_cases g2 : h1 = h2
    · have e2 : ((h1 : Int) == (h2 : Int)) = true := by simp [g2]
      by_cases g3 : l1 < l2
      · have e3 : (l1 : Int) < (l2 : Int) := by omega
        go_enter Tryd.func72, Tryd.ntmps72
        go_wp2
        go_returns
        exact ⟨ret_bool (by simp [g1, g2, g3]), rfl⟩
      · have e3 : ¬ (l1 : Int) < (l2 : Int) := by omega
        go_enter Tryd.func72, Tryd.ntmps72
        go_wp2
        go_returns
        exact ⟨ret_bool (by simp [g1, g2, g3]), rfl⟩
    · have e2 : ((h1 : Int) == (h2 : Int)) = false := beq_eq_false_iff_ne.2 (by omega)
      go_enter Tryd.func72, Tryd.ntmps72
      go_wp2
      go_returns
      exact ⟨ret_bool (by simp [g1, g2]), rfl⟩

theorem dsize_any (n : Int) (w : World) : Calls Tryd.prog 53 #[.int .i64 n] w fun e w' => e = .returned (.bool (okSize n)) ∧ w' = w := by
  by_cases h1 : 1 ≤ n
  · by_cases h2 : n ≤ 16
    · go_enter Tryd.func53, Tryd.ntmps53
      go_wp2
      go_returns
      exact ⟨ret_bool (by simp [okSize, h1, h2]), rfl⟩
    · go_enter Tryd.func53, Tryd.ntmps53
      go_wp2
      go_returns
      exact ⟨ret_bool (by simp [okSize, h1, h2]), rfl⟩
  · go_enter Tryd.func53, Tryd.ntmps53
    go_wp2
    go_returns
    exact ⟨ret_bool (by simp [okSize]; omega), rfl⟩

theorem plus_any (neg : Bool) (hi lo n : Nat) (w : World) (hhi : hi < 18446744073709551616) :
    Calls Tryd.prog 59 #[.agg #[.bool neg, .int .u64 (hi : Int), .int .u64 (lo : Int)], .int .u64 (n : Int)] w fun e w' => e = .returned (.agg #[.bool neg, .int .u64 (((hi + (lo + n) / 18446744073709551616) % 18446744073709551616 : Nat) : Int), .int .u64 (((lo + n) % 18446744073709551616 : Nat) : Int)]) ∧ Chg [] w w' := by
  have ha := add64z lo n
  have hw : ∀ x : Nat, IntKind.u64.wrap ((hi : Int) + (x : Int)) = (((hi + x) % 18446744073709551616 : Nat) : Int) := fun x => by rw [IntKind.wrap_u64]; omega
  generalize (lo + n) / 18446744073709551616 = c at *
  generalize (lo + n) % 18446744073709551616 = l at *
  go_enter Tryd.func59, Tryd.ntmps59
  go_wp2_with (first
    | simp only [ha])
  refine ⟨by simp, ?_⟩
  refine ⟨.agg #[.bool neg, .int .u64 (((hi + c) % 18446744073709551616 : Nat) : Int), .int .u64 (l : Int)], ?_, rfl, (Chg.alloc _ _ _).trans (Chg.alloc _ _ _)⟩
  simp [results, Tryd.f59, go_sem]

theorem plus_num (neg : Bool) (v n : Nat) (w : World) (hv : v + n < 340282366920938463463374607431768211456) :
    Calls Tryd.prog 59 #[num neg v, .int .u64 (n : Int)] w fun e w' => e = .returned (num neg (v + n)) ∧ Chg [] w w' := by
  obtain ⟨hi, lo, h1, h2, rfl, e⟩ := num_parts neg v (by omega)
  rw [e]
  refine (plus_any neg hi lo n w h1).mono ?_
  rintro e w' ⟨rfl, hc⟩
  refine ⟨?_, hc⟩
  rw [num_of neg ((hi + (lo + n) / 18446744073709551616) % 18446744073709551616) ((lo + n) % 18446744073709551616) _ (by omega) (by omega)]

theorem mul64 (x y : Nat) (hx : x < 18446744073709551616) (hy : y < 18446744073709551616) (a b : Nat) (ha : x * y / 18446744073709551616 = a) (hb : x * y % 18446744073709551616 = b) (w : World) :
    Calls Tryd.prog 70 #[.int .u64 (x : Int), .int .u64 (y : Int)] w fun e w' => e = .returned (.tuple #[.int .u64 (a : Int), .int .u64 (b : Int)]) ∧ w' = w := by
  subst ha hb; exact Tryd.bits_Mul64 x y hx hy w

set_option maxHeartbeats 1000000 in
set_option maxRecDepth 100000 in
theorem times_any (neg : Bool) (hi lo m a b c d : Nat) (w : World) (hhi : hi < 18446744073709551616) (hlo : lo < 18446744073709551616) (hm : m < 18446744073709551616)
    (ha : hi * m / 18446744073709551616 = a) (hb : hi * m % 18446744073709551616 = b) (hc : lo * m / 18446744073709551616 = c) (hd : lo * m % 18446744073709551616 = d) :
    Calls Tryd.prog 45 #[.agg #[.bool neg, .int .u64 (hi : Int), .int .u64 (lo : Int)], .int .u64 (m : Int)] w fun e w' => (∃ ok, e = .returned (.tuple #[.agg #[.bool neg, .int .u64 (((b + c) % 18446744073709551616 : Nat) : Int), .int .u64 (d : Int)], .bool ok])) ∧ Chg [] w w' := by
  have h1 := mul64 hi m hhi hm a b ha hb
  have h2 := mul64 lo m hlo hm c d hc hd
  clear ha hb hc hd
  have h3 := add64z b c
  generalize (b + c) / 18446744073709551616 = y at *
  generalize (b + c) % 18446744073709551616 = z at *
  by_cases g : a = 0
  · have e1 : ((a : Int) == 0) = true := by simp [g]
    go_enter Tryd.func45, Tryd.ntmps45
    go_upto_region 2 with (go_at_call 70; refine (h1 _).mono ?_; rintro e w' ⟨rfl, rfl⟩)
    go_wp2_with (first
      | simp only [h3]
      | (go_at_call 70; refine (h2 _).mono ?_; rintro e w' ⟨rfl, rfl⟩))
    refine ⟨by simp, ?_⟩
    refine ⟨.tuple #[.agg #[.bool neg, .int .u64 (z : Int), .int .u64 (d : Int)], .bool ((y : Int) == 0)], ?_, ⟨_, rfl⟩, (Chg.alloc _ _ _).trans (Chg.alloc _ _ _)⟩
    simp [results, Tryd.f45, go_sem]
  · have e1 : ((a : Int) == 0) = false := beq_eq_false_iff_ne.2 (by omega)
    go_enter Tryd.func45, Tryd.ntmps45
    go_upto_region 2 with (go_at_call 70; refine (h1 _).mono ?_; rintro e w' ⟨rfl, rfl⟩)
    go_wp2_with (first
      | simp only [h3]
      | (go_at_call 70; refine (h2 _).mono ?_; rintro e w' ⟨rfl, rfl⟩))
    refine ⟨by simp, ?_⟩
    refine ⟨.tuple #[.agg #[.bool neg, .int .u64 (z : Int), .int .u64 (d : Int)], .bool false], ?_, ⟨_, rfl⟩, (Chg.alloc _ _ _).trans (Chg.alloc _ _ _)⟩
    simp [results, Tryd.f45, go_sem]

theorem times_num (neg : Bool) (v m : Nat) (w : World) (hv : v < 340282366920938463463374607431768211456) (hm : m < 18446744073709551616) (hp : v * m < 340282366920938463463374607431768211456) :
    Calls Tryd.prog 45 #[num neg v, .int .u64 (m : Int)] w fun e w' => (∃ ok, e = .returned (.tuple #[num neg (v * m), .bool ok])) ∧ Chg [] w w' := by
  obtain ⟨hi, lo, h1, h2, rfl, e⟩ := num_parts neg v (by omega)
  rw [e]
  refine (times_any neg hi lo m _ _ _ _ w h1 h2 hm rfl rfl rfl rfl).mono ?_
  rintro e w' ⟨⟨ok, rfl⟩, hc⟩
  refine ⟨⟨ok, ?_⟩, hc⟩
  have hx : (hi * 18446744073709551616 + lo) * m = (hi * m) * 18446744073709551616 + lo * m := by rw [Nat.add_mul]; congr 1; rw [Nat.mul_assoc, Nat.mul_comm _ m, Nat.mul_assoc]
  rw [hx] at hp ⊢
  generalize hi * m = p at *
  generalize lo * m = q at *
  rw [num_of neg ((p % 18446744073709551616 + q / 18446744073709551616) % 18446744073709551616) (q % 18446744073709551616) _ (by omega) (by omega)]

theorem div64 (hi lo y : Nat) (w : World) (hy : hi < y) (hy2 : y < 18446744073709551616) (hlo : lo < 18446744073709551616) (q r : Nat) (hq : (hi * 18446744073709551616 + lo) / y = q) (hr : (hi * 18446744073709551616 + lo) % y = r) :
    Calls Tryd.prog 64 #[.int .u64 (hi : Int), .int .u64 (lo : Int), .int .u64 (y : Int)] w fun e w' => e = .returned (.tuple #[.int .u64 (q : Int), .int .u64 (r : Int)]) ∧ Chg [] w w' := by
  subst hq hr
  rcases Nat.eq_zero_or_pos hi with rfl | h
  · rw [Nat.zero_mul, Nat.zero_add]; exact Div64_zero lo y w hy hy2 hlo
  · exact Div64_any hi lo y w hy h hy2 hlo

set_option maxHeartbeats 1000000 in
set_option maxRecDepth 100000 in
theorem over_any (neg : Bool) (hi lo m q r : Nat) (w : World) (hhi : hi < 18446744073709551616) (hlo : lo < 18446744073709551616) (hm1 : 1 ≤ m) (hm : m < 18446744073709551616)
    (hq : (hi % m * 18446744073709551616 + lo) / m = q) (hr : (hi % m * 18446744073709551616 + lo) % m = r) :
    Calls Tryd.prog 37 #[.agg #[.bool neg, .int .u64 (hi : Int), .int .u64 (lo : Int)], .int .u64 (m : Int)] w fun e w' => e = .returned (.tuple #[.agg #[.bool neg, .int .u64 ((hi / m : Nat) : Int), .int .u64 (q : Int)], .int .u64 (r : Int)]) ∧ Chg [] w w' := by
  have hmod := Nat.mod_lt hi (by omega : m > 0)
  have h1 := fun W => div64 (hi % m) lo m W hmod hm hlo q r hq hr
  have hdl : hi / m ≤ hi := Nat.div_le_self _ _
  have e0 : ((m : Int) == 0) = false := beq_eq_false_iff_ne.2 (by omega)
  have e1 : (hi : Int) / (m : Int) = ((hi / m : Nat) : Int) := rfl
  have e2 : (hi : Int) % (m : Int) = ((hi % m : Nat) : Int) := rfl
  clear hq hr
  generalize hi / m = a at *
  generalize hi % m = b at *
  have e3 : IntKind.u64.wrap (a : Int) = (a : Int) := by rw [IntKind.wrap_u64]; omega
  have e4 : IntKind.u64.wrap (b : Int) = (b : Int) := by rw [IntKind.wrap_u64]; omega
  go_enter Tryd.func37, Tryd.ntmps37
  go_wp2_with (fail)
  go_quiet (fail)
  go_wp2_with (go_at_call 64; refine (h1 _).mono ?_; rintro e w' ⟨rfl, hc⟩; obtain ⟨c0, c1, c2⟩ := three_cells (hc.heap (al_old (al_new rfl)) (by simp)); obtain ⟨s0, s1, s2, s3, s4, s5, s6, s7⟩ := store3 (g := w.heap.size + 1) (.bool neg) (.int .u64 (a : Int)) (.int .u64 (q : Int)) (hc.heap (al_new (by simp)) (by simp)); obtain ⟨d0, d1, d2⟩ := three_cells s6.out)
  refine ⟨by simp, ?_⟩
  refine ⟨.tuple #[.agg #[.bool neg, .int .u64 (a : Int), .int .u64 (q : Int)], .int .u64 (r : Int)], ?_, rfl, ?_⟩
  · simp [results, Tryd.f37, go_sem, d0, d1, d2]
  · exact ((((Chg.alloc [] w _).trans (Chg.alloc _ _ _)).drewN _).trans hc).then s7.out (by simp)

theorem over_num (neg : Bool) (v m : Nat) (w : World) (hv : v < 340282366920938463463374607431768211456) (hm1 : 1 ≤ m) (hm : m < 18446744073709551616) :
    Calls Tryd.prog 37 #[num neg v, .int .u64 (m : Int)] w fun e w' => e = .returned (.tuple #[num neg (v / m), .int .u64 ((v % m : Nat) : Int)]) ∧ Chg [] w w' := by
  obtain ⟨hi, lo, h1, h2, hvv, e⟩ := num_parts neg v (by omega)
  rw [e]
  refine (over_any neg hi lo m _ _ w h1 h2 hm1 hm rfl rfl).mono ?_
  rintro e w' ⟨rfl, hc⟩
  refine ⟨?_, hc⟩
  have hmod := Nat.mod_lt hi (by omega : m > 0)
  have hx : v = m * (hi / m * 18446744073709551616) + (hi % m * 18446744073709551616 + lo) := by
    have h := Nat.div_add_mod hi m
    rw [← Nat.mul_assoc, ← Nat.add_assoc, ← Nat.add_mul, h, hvv]
  have hq : v / m = hi / m * 18446744073709551616 + (hi % m * 18446744073709551616 + lo) / m := by rw [hx, Nat.mul_add_div (by omega)]
  have hr : v % m = (hi % m * 18446744073709551616 + lo) % m := by rw [hx, Nat.mul_add_mod]
  have hlt : (hi % m * 18446744073709551616 + lo) / m < 18446744073709551616 := by
    rw [Nat.div_lt_iff_lt_mul (by omega)]
    have : (hi % m + 1) * 18446744073709551616 ≤ m * 18446744073709551616 := Nat.mul_le_mul_right _ hmod
    rw [Nat.mul_comm 18446744073709551616 m]; omega
  rw [hr, num_of neg (hi / m) ((hi % m * 18446744073709551616 + lo) / m) _ hlt hq]

end Go.Proofs.YtmklkfogddppmaaDoor

/- The sum of two numbers of jobshop/decimal. -/
import Derived.Test.YtmklkfogddppmaaDoorKNum
namespace Go.Proofs.YtmklkfogddppmaaDoor
open Go.RowKit Go.Shelf
set_option linter.unusedVariables false
set_option linter.unusedSimpArgs false

/-- the sum of two numbers: sign and value -/
def addS (n1 : Bool) (v1 : Nat) (n2 : Bool) (v2 : Nat) : Bool × Nat := if n1 = n2 then (n1, v1 + v2) else if v1 < v2 then (n2, v2 - v1) else (n1, v1 - v2)

set_option maxHeartbeats 1000000 in
set_option maxRecDepth 100000 in
theorem add_same (n : Bool) (h1 l1 h2 l2 l c h d : Nat) (w : World) (hc : c ≤ 1) (e1 : (l1 + l2) % 18446744073709551616 = l) (e2 : (l1 + l2) / 18446744073709551616 = c)
    (e3 : (h1 + h2 + c) % 18446744073709551616 = h) (e4 : (h1 + h2 + c) / 18446744073709551616 = d) :
    Calls Tryd.prog 48 #[.agg #[.bool n, .int .u64 (h1 : Int), .int .u64 (l1 : Int)], .agg #[.bool n, .int .u64 (h2 : Int), .int .u64 (l2 : Int)]] w fun e w' => e = .returned (.agg #[.bool n, .int .u64 (h : Int), .int .u64 (l : Int)]) ∧ Chg [] w w' := by
  have a1 := add64z l1 l2
  have a2 := add64 h1 h2 c hc
  rw [e1, e2] at a1
  rw [e3, e4] at a2
  clear e1 e2 e3 e4
  have e0 : (n == n) = true := by simp
  go_enter Tryd.func48, Tryd.ntmps48
  go_wp2_with (first
    | simp only [a1]
    | simp only [a2])
  refine ⟨by simp, ?_⟩
  refine ⟨.agg #[.bool n, .int .u64 (h : Int), .int .u64 (l : Int)], ?_, rfl, ((Chg.alloc _ _ _).trans (Chg.alloc _ _ _)).trans (Chg.alloc _ _ _)⟩
  simp [results, Tryd.f48, go_sem]

set_option maxHeartbeats 1000000 in
set_option maxRecDepth 100000 in
theorem add_less (n1 n2 : Bool) (h1 l1 h2 l2 l c h d : Nat) (w : World) (hn : n1 ≠ n2) (hc : c ≤ 1) (hl : h1 < h2 ∨ h1 = h2 ∧ l1 < l2) (e1 : (l2 + 18446744073709551616 - l1) % 18446744073709551616 = l) (e2 : (if l2 < l1 then 1 else 0) = c)
    (e3 : (h2 + 18446744073709551616 - h1 - c) % 18446744073709551616 = h) (e4 : (if h2 < h1 + c then 1 else 0) = d) :
    Calls Tryd.prog 48 #[.agg #[.bool n1, .int .u64 (h1 : Int), .int .u64 (l1 : Int)], .agg #[.bool n2, .int .u64 (h2 : Int), .int .u64 (l2 : Int)]] w fun e w' => e = .returned (.agg #[.bool n2, .int .u64 (h : Int), .int .u64 (l : Int)]) ∧ Chg [] w w' := by
  have a1 := sub64z l2 l1
  have a2 := sub64 h2 h1 c hc
  rw [e1, e2] at a1
  rw [e3, e4] at a2
  have LL := fun W => less_any n1 n2 h1 l1 h2 l2 W
  rw [decide_eq_true hl] at LL
  clear e1 e2 e3 e4 hl
  have e0 : (n1 == n2) = false := beq_eq_false_iff_ne.2 hn
  go_enter Tryd.func48, Tryd.ntmps48
  go_upto_region 5 with (fail)
  go_wp2_with (go_at_call 72; refine (LL _).mono ?_; rintro e w' ⟨rfl, rfl⟩)
  refine ⟨by simp, ?_⟩
  refine ⟨.agg #[.bool n2, .int .u64 (h : Int), .int .u64 (l : Int)], ?_, rfl, ((((Chg.alloc _ _ _).trans (Chg.alloc _ _ _)).trans (Chg.alloc _ _ _)).trans (Chg.alloc _ _ _)).trans (Chg.alloc _ _ _)⟩
  simp [results, Tryd.f48, go_sem]

set_option maxHeartbeats 1000000 in
set_option maxRecDepth 100000 in
theorem add_more (n1 n2 : Bool) (h1 l1 h2 l2 l c h d : Nat) (w : World) (hn : n1 ≠ n2) (hc : c ≤ 1) (hl : ¬ (h1 < h2 ∨ h1 = h2 ∧ l1 < l2)) (e1 : (l1 + 18446744073709551616 - l2) % 18446744073709551616 = l) (e2 : (if l1 < l2 then 1 else 0) = c)
    (e3 : (h1 + 18446744073709551616 - h2 - c) % 18446744073709551616 = h) (e4 : (if h1 < h2 + c then 1 else 0) = d) :
    Calls Tryd.prog 48 #[.agg #[.bool n1, .int .u64 (h1 : Int), .int .u64 (l1 : Int)], .agg #[.bool n2, .int .u64 (h2 : Int), .int .u64 (l2 : Int)]] w fun e w' => e = .returned (.agg #[.bool n1, .int .u64 (h : Int), .int .u64 (l : Int)]) ∧ Chg [] w w' := by
  have a1 := sub64z l1 l2
  have a2 := sub64 h1 h2 c hc
  rw [e1, e2] at a1
  rw [e3, e4] at a2
  have LL := fun W => less_any n1 n2 h1 l1 h2 l2 W
  rw [decide_eq_false hl] at LL
  clear e1 e2 e3 e4 hl
  have e0 : (n1 == n2) = false := beq_eq_false_iff_ne.2 hn
  go_enter Tryd.func48, Tryd.ntmps48
  go_upto_region 5 with (fail)
  go_wp2_with (go_at_call 72; refine (LL _).mono ?_; rintro e w' ⟨rfl, rfl⟩)
  refine ⟨by simp, ?_⟩
  refine ⟨.agg #[.bool n1, .int .u64 (h : Int), .int .u64 (l : Int)], ?_, rfl, ((((Chg.alloc _ _ _).trans (Chg.alloc _ _ _)).trans (Chg.alloc _ _ _)).trans (Chg.alloc _ _ _)).trans (Chg.alloc _ _ _)⟩
  simp [results, Tryd.f48, go_sem]

theorem add_num (n1 n2 : Bool) (v1 v2 : Nat) (w : World) (hv : v1 + v2 < 340282366920938463463374607431768211456) :
    Calls Tryd.prog 48 #[num n1 v1, num n2 v2] w fun e w' => e = .returned (num (addS n1 v1 n2 v2).1 (addS n1 v1 n2 v2).2) ∧ Chg [] w w' := by
  obtain ⟨h1, l1, b1, b2, q1, e1⟩ := num_parts n1 v1 (by omega)
  obtain ⟨h2, l2, b3, b4, q2, e2⟩ := num_parts n2 v2 (by omega)
  rw [e1, e2]
  unfold addS
  by_cases hn : n1 = n2
  · subst hn
    rw [if_pos rfl]
    refine (add_same n1 h1 l1 h2 l2 _ _ _ _ w (by omega) rfl rfl rfl rfl).mono ?_
    rintro e w' ⟨rfl, hc⟩
    refine ⟨?_, hc⟩
    rw [num_of n1 ((h1 + h2 + (l1 + l2) / 18446744073709551616) % 18446744073709551616) ((l1 + l2) % 18446744073709551616) _ (by omega) (by omega)]
  · rw [if_neg hn]
    by_cases hl : v1 < v2
    · rw [if_pos hl]
      by_cases h : l2 < l1
      · refine (add_less n1 n2 h1 l1 h2 l2 _ 1 _ _ w hn (by omega) (by omega) rfl (by rw [if_pos h]) rfl rfl).mono ?_
        rintro e w' ⟨rfl, hc⟩
        refine ⟨?_, hc⟩
        rw [num_of n2 ((h2 + 18446744073709551616 - h1 - 1) % 18446744073709551616) ((l2 + 18446744073709551616 - l1) % 18446744073709551616) _ (by omega) (by omega)]
      · refine (add_less n1 n2 h1 l1 h2 l2 _ 0 _ _ w hn (by omega) (by omega) rfl (by rw [if_neg h]) rfl rfl).mono ?_
        rintro e w' ⟨rfl, hc⟩
        refine ⟨?_, hc⟩
        rw [num_of n2 ((h2 + 18446744073709551616 - h1 - 0) % 18446744073709551616) ((l2 + 18446744073709551616 - l1) % 18446744073709551616) _ (by omega) (by omega)]
    · rw [if_neg hl]
      by_cases h : l1 < l2
      · refine (add_more n1 n2 h1 l1 h2 l2 _ 1 _ _ w hn (by omega) (by omega) rfl (by rw [if_pos h]) rfl rfl).mono ?_
        rintro e w' ⟨rfl, hc⟩
        refine ⟨?_, hc⟩
        rw [num_of n1 ((h1 + 18446744073709551616 - h2 - 1) % 18446744073709551616) ((l1 + 18446744073709551616 - l2) % 18446744073709551616) _ (by omega) (by omega)]
      · refine (add_more n1 n2 h1 l1 h2 l2 _ 0 _ _ w hn (by omega) (by omega) rfl (by rw [if_neg h]) rfl rfl).mono ?_
        rintro e w' ⟨rfl, hc⟩
        refine ⟨?_, hc⟩
        rw [num_of n1 ((h1 + 18446744073709551616 - h2 - 0) % 18446744073709551616) ((l1 + 18446744073709551616 - l2) % 18446744073709551616) _ (by omega) (by omega)]

end Go.Proofs.YtmklkfogddppmaaDoor

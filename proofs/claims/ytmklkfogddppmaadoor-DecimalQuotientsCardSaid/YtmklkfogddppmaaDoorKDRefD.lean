/- Code, Field, size, result and Sum of the reference of layer 4. -/
import Derived.Deep.RegionHeld3
import Derived.Test.YtmklkfogddppmaaDoorKDRefB
import Derived.Test.YtmklkfogddppmaaDoorKApp4
import Derived.Test.YtmklkfogddppmaaDoorKNibL
import Derived.Test.YtmklkfogddppmaaDoorKAgg
import Derived.Test.YtmklkfogddppmaaDoorKDFin
import Derived.Test.YtmklkfogddppmaaDoorKNumAdd
namespace Go.Proofs.YtmklkfogddppmaaDoor
open Go.RowKit Go.Shelf
set_option linter.unusedVariables false
set_option linter.unusedSimpArgs false

theorem rplus_any (w : World) (va vb : Value) (x y : Nat) (ha : Dg w va x) (hb : Dg w vb y) (hx : x < 10 ^ 200) (hy : y < 10 ^ 200) :
    Calls Tryd.prog 61 #[va, vb] w fun e w' => ∃ u, e = .returned u ∧ Dg w' u (x + y) ∧ Chg [] w w' := by
  have := plus_any' w va vb (digs x) (digs y) ha hb (digs_lt x) (digs_lt y) (Nat.le_trans (digs_len_le x 200 hx) (by decide)) (Nat.le_trans (digs_len_le y 200 hy) (by decide))
  rw [val_digs, val_digs] at this
  exact this
theorem rminus_any (w : World) (va vb : Value) (x y : Nat) (ha : Dg w va x) (hb : Dg w vb y) (hx : x < 10 ^ 200) (hle : y ≤ x) :
    Calls Tryd.prog 68 #[va, vb] w fun e w' => ∃ u, e = .returned u ∧ Dg w' u (x - y) ∧ Chg [] w w' := by
  have := minus_any' w va vb (digs x) (digs y) ha hb (digs_lt x) (digs_lt y) (Nat.le_trans (digs_len_le x 200 hx) (by decide)) (by rw [val_digs, val_digs]; exact hle)
  rw [val_digs, val_digs] at this
  exact this
theorem rLess_any (w : World) (va vb : Value) (x y : Nat) (ha : Dg w va x) (hb : Dg w vb y) :
    Calls Tryd.prog 67 #[va, vb] w fun e w' => e = .returned (.bool (decide (x < y))) ∧ w = w' := by
  have := Less_any w va vb (digs x) (digs y) ha hb (digs_lt x) (digs_lt y)
  rw [val_digs, val_digs] at this
  exact this

theorem r4size_any (n : Int) (w : World) : Calls Tryd.prog 55 #[.int .i64 n] w fun e w' => e = .returned (.bool (okSize n)) ∧ w = w' := by
  have H := hid (show okSize n = (decide (1 ≤ n) && decide (n ≤ 16)) from rfl)
  by_cases h1 : 1 ≤ n <;> by_cases h2 : n ≤ 16 <;>
  · go_enter Tryd.func55, Tryd.ntmps55
    go_wp2
    go_returns
    exact ⟨by rw [H.out]; simp [*], rfl⟩

/-- the condition code of a number -/
def codeN (neg : Bool) (v : Nat) : Int := if v = 0 then 0 else if neg then 1 else 2

theorem Dg.shape {w : World} {v : Value} {n : Nat} (h : Dg w v n) : ∃ a L cap, v = .slice a L cap ∧ L ≤ cap ∧ cap ≤ 9223372036854775807 ∧ (digs n).length = L := by
  obtain ⟨a, cap, hv, h1, h2⟩ := ReadsV.shape h rfl
  exact ⟨a, _, cap, hv, h1, h2, rfl⟩
theorem digs_len0 (v : Nat) : (digs v).length = 0 ↔ v = 0 := by
  constructor
  · intro h; exact digs_eq_nil (List.eq_nil_of_length_eq_zero h)
  · rintro rfl; rw [digs_zero]; rfl

set_option maxHeartbeats 1000000 in
theorem Code_any (w : World) (neg : Bool) (v : Nat) (u : Value) (h : Dg w u v) :
    Calls Tryd.prog 49 #[.agg #[.bool neg, u]] w fun e w' => e = .returned (.int .i64 (codeN neg v)) ∧ Chg [] w w' := by
  obtain ⟨a, L, cap, rfl, h1, h2, hL⟩ := h.shape
  have h0 := digs_len0 v
  rw [hL] at h0
  unfold codeN
  clear h hL
  by_cases hv : v = 0
  · have hL0 : L = 0 := h0.2 hv
    rw [if_pos hv]
    subst hL0
    clear h0
    go_enter Tryd.func49, Tryd.ntmps49
    go_wp2
    go_returns
    exact ⟨rfl, Chg.alloc _ _ _⟩
  · have hL0 : ((L : Int) == 0) = false := beq_eq_false_iff_ne.2 (by omega)
    rw [if_neg hv]
    clear h0
    cases neg
    all_goals
      go_enter Tryd.func49, Tryd.ntmps49
      go_wp2
      go_returns
      exact ⟨rfl, Chg.alloc _ _ _⟩

set_option maxRecDepth 100000 in
set_option maxHeartbeats 2000000 in
theorem Field_any (w : World) (neg : Bool) (v : Nat) (u : Value) (n : Nat) (h : Dg w u v) (hn1 : 1 ≤ n) (hn2 : n ≤ 16) :
    Calls Tryd.prog 44 #[.agg #[.bool neg, u], .int .i64 n] w fun e w' => ∃ r, e = .returned (.tuple #[r, .bool (decide (10 ^ (2 * n - 1) ≤ v))]) ∧
      w'.ownsRow w.heap.size 5 1 r n ((fldN n neg v).map eb) ∧ Chg [] w w' := by
  have HDG := hid (fun W k (hc : Chg [] w W) => digit_any W u (digs v) k (ReadsV.keep h hc (by simp)))
  have hov := digs_over v n hn1
  obtain ⟨a, L, cap, rfl, h1, h2, hL⟩ := h.shape
  rw [hL] at hov
  rw [← hov]
  have HT := hid (fldL_take v n)
  have HLT := hid (fldL_lt v n neg)
  have HP := hid (fldN_pairs neg v n hn1)
  have HLen := hid (rightL_length (digs v).reverse (2 * n - 1))
  clear h hov hL
  generalize rightL (digs v).reverse (2 * n - 1) = F at *
  go_enter Tryd.func44, Tryd.ntmps44
  go_wp2_with (fail)
  have HB0 := hid (al_new (w := w) (o := .cells #[.bool neg, .slice a L cap] 54) rfl)
  go_loopw [6, 7] (fun v i wr => ∃ (k : Nat) (j : Int), i = .int .i64 j ∧ j ≤ 2 * (n : Int) - 2 - k ∧ 2 * (n : Int) - 2 - k ≤ j ∧ k ≤ 2 * n - 1 ∧ wr.ownsRow (w.heap.size + 1) 3 1 v k ((F.take k).map en) ∧ Chg [] w wr ∧ Hid (wr.heap[w.heap.size]? = some (.cells #[.bool neg, .slice a L cap] 54 (0, 0)))) (fun _ i _ => (intOf i + 1).toNat)
  case atStart => exact ⟨0, _, rfl, by omega, by omega, by omega, World.ownsRow_nil _ _ _ _, Chg.alloc _ _ _, HB0⟩
  case round =>
    clear HB0
    obtain ⟨k, j, rfl, hj1, hj2, hk, hown, hc, hb⟩ := hrel
    obtain ⟨c0, c1⟩ := two_cells hb.out
    have hsz := lt_of_block hb.out
    by_cases h0 : 0 ≤ j
    · obtain ⟨m, rfl⟩ := Int.eq_ofNat_of_zero_le h0
      have d1 := HDG.out wr m hc
      have HT2 := hid (HT.out k (by omega))
      rw [show 2 * n - 2 - k = m from by omega] at HT2
      generalize (digs v).getD m 0 = x at *
      go_wp2_with (first | (go_at_call 60; refine d1.mono ?_; rintro e w' ⟨rfl, rfl⟩) | (at_builtin; refine appendN rfl _ _ 52 rfl (w.heap.size + 1) 3 8 (.int .i64 0) Tryd.underlying52 info_int rfl (by decide) 1 [_] rfl hown rfl rfl (by simp [Value.oneCell']) (by omega) (by omega) ?_; intro v' w' ho' hc'))
      go_roundw
      case rel =>
        refine ⟨k + 1, _, rfl, by omega, by omega, by omega, ?_, chg_own hc hown (by omega) hc', hc'.heap hb.out (fun e => by have := own_ge hown _ e; omega)⟩
        rw [show [Value.int .i64 (x : Int)] = [x].map en from rfl, ← List.map_append, ← HT2.out] at ho'
        exact ho'
      case measure => first | (simp [intOf]; done) | (simp [intOf]; omega)
    · have hk2 : k = 2 * n - 1 := by omega
      have HF := hid (show F.take k = F from by rw [hk2]; exact List.take_of_length_le (by rw [HLen.out]; exact Nat.le_refl _))
      rw [HF.out] at hown
      have HOWN := hid hown
      have HC := hid hc
      have e1 : IntKind.i64.wrap (2 * (n : Int)) = 2 * (n : Int) := IntWalk.i64_in _ (by omega)
      have e2 : IntKind.i64.wrap (2 * (n : Int) - 1) = 2 * (n : Int) - 1 := IntWalk.i64_in _ (by omega)
      have HNB := hid (show ¬ w.heap.size ∈ own _ from fun e => by have h5 := own_ge hown _ e; omega)
      have HOWND := hid (own_keep hown (Chg.drew [] wr) (by simp))
      clear hown hc HF
      cases neg
      · go_wp2_with (fail)
        go_region_held3 (fun w' => w'.cell? ⟨w.heap.size, 1, none⟩ = some (.slice a L cap))
          (first | go_keep | exact hc'.cell (by assumption) (by first | (simp; done) | exact HNB.out))
          (first
            | (go_at_call 69; refine (Bytes_any _ _ (F ++ [sgn false]) n HR.out (by rw [List.length_append, HLen.out]; simp; omega) hn1 (by omega) HLT.out).mono ?_; rintro e w2 ⟨u2, rfl, ho, hc'⟩; have HO := hid ho; have HC2 := hid (HC1.out.trans hc'); clear ho)
            | (refine stepN rfl _ _ 52 rfl (w.heap.size + 1) 3 8 (.int .i64 0) Tryd.underlying52 info_int rfl (by decide) 1 [en (sgn false)] rfl (by decide) (HOWND.out.alloc _) _ (heap_alloc_new _ _) rfl rfl (by simp [Value.oneCell', en]) (by omega) (by simp; omega) ?_; intro v' w' ho' hc'; have HR := hid (ReadsV.ofn (l := F ++ [sgn false]) (by rw [List.map_append]; exact ho') (by rw [List.length_append, HLen.out]; simp; omega)); have HC1 := hid (((HC.out.trans (Chg.drew [] wr)).trans (Chg.alloc [] _ _)).then hc' (fun i hi hlt => by have h5 := own_ge HOWND.out i hi; omega)); clear ho'))
        all_goals go_wp2_with (fail)
        all_goals go_returns
        all_goals exact ⟨_, ret_vb (by rw [decide_eq_decide]; omega), by rw [← HP.out]; exact own_base HO.out HC1.out.size, HC2.out⟩
      · go_wp2_with (fail)
        go_region_held3 (fun w' => w'.cell? ⟨w.heap.size, 1, none⟩ = some (.slice a L cap))
          (first | go_keep | exact hc'.cell (by assumption) (by first | (simp; done) | exact HNB.out))
          (first
            | (go_at_call 69; refine (Bytes_any _ _ (F ++ [sgn true]) n HR.out (by rw [List.length_append, HLen.out]; simp; omega) hn1 (by omega) HLT.out).mono ?_; rintro e w2 ⟨u2, rfl, ho, hc'⟩; have HO := hid ho; have HC2 := hid (HC1.out.trans hc'); clear ho)
            | (refine stepN rfl _ _ 52 rfl (w.heap.size + 1) 3 8 (.int .i64 0) Tryd.underlying52 info_int rfl (by decide) 1 [en (sgn true)] rfl (by decide) (HOWND.out.alloc _) _ (heap_alloc_new _ _) rfl rfl (by simp [Value.oneCell', en]) (by omega) (by simp; omega) ?_; intro v' w' ho' hc'; have HR := hid (ReadsV.ofn (l := F ++ [sgn true]) (by rw [List.map_append]; exact ho') (by rw [List.length_append, HLen.out]; simp; omega)); have HC1 := hid (((HC.out.trans (Chg.drew [] wr)).trans (Chg.alloc [] _ _)).then hc' (fun i hi hlt => by have h5 := own_ge HOWND.out i hi; omega)); clear ho'))
        all_goals go_wp2_with (fail)
        all_goals go_returns
        all_goals exact ⟨_, ret_vb (by rw [decide_eq_decide]; omega), by rw [← HP.out]; exact own_base HO.out HC1.out.size, HC2.out⟩

set_option maxHeartbeats 1000000 in
theorem result_any (w : World) (neg : Bool) (v : Nat) (u : Value) (n : Nat) (h : Dg w u v) (hn1 : 1 ≤ n) (hn2 : n ≤ 16) :
    Calls Tryd.prog 52 #[.agg #[.bool neg, u], .int .i64 n] w fun e w' => ∃ r, e = .returned (.tuple #[r, .int .i64 (finC neg v n), .int .i64 (finO v n)]) ∧
      w'.ownsRow w.heap.size 5 1 r n ((finS neg v n).map eb) ∧ Chg [] w w' := by
  have F := fun ng W (hc : Chg [] w W) => Field_any W ng v u n (h.keep hc) hn1 hn2
  have C := fun ng W (hc : Chg [] w W) => Code_any W ng v u (h.keep hc)
  obtain ⟨a, L, cap, rfl, h1, h2, hL⟩ := h.shape
  have h0 := digs_len0 v
  rw [hL] at h0
  have hp : 0 < 10 ^ (2 * n - 1) := Nat.pow_pos (by decide)
  unfold finC finO finS
  generalize 10 ^ (2 * n - 1) = p at *
  clear h hL
  have HF := hid F
  have HC := hid C
  clear F C
  have HB0 := hid (al_new (w := w) (o := .cells #[.bool neg, .slice a L cap] 54) rfl)
  by_cases hz : v = 0
  · have hL0 : L = 0 := h0.2 hz
    have hov : decide (p ≤ v) = false := decide_eq_false (by omega)
    rw [if_neg (by omega), if_pos hz, if_neg (by omega), decide_eq_false (fun h => h hz), Bool.and_false]
    rw [hov] at HF
    have HCN := hid (show codeN false v = 0 from if_pos hz)
    subst hL0
    clear h0 hz hov
    go_enter Tryd.func52, Tryd.ntmps52
    go_wp2_with (first | (go_at_call 44; refine (HF.out false _ (Chg.alloc _ _ _)).mono ?_; rintro e w2 ⟨r, rfl, hO, hc'⟩; obtain ⟨c0, c1⟩ := two_cells (hc'.heap (al_new (w := w) (o := .cells #[.bool false, .slice a 0 cap] 54) rfl) (by simp))) | (go_at_call 49; refine (HC.out false _ ((Chg.alloc _ _ _).trans hc')).mono ?_; rintro e w3 ⟨rfl, hc2⟩))
    go_returns
    exact ⟨r, by first | rfl | (rw [HCN.out]; rfl) | rw [HCN.out], own_keep (own_base hO (by simp)) hc2 (by simp), ((Chg.alloc _ _ _).trans hc').trans hc2⟩
  · have hL0 : ((L : Int) == 0) = false := beq_eq_false_iff_ne.2 (by omega)
    rw [decide_eq_true hz, Bool.and_true, if_neg hz]
    clear h0
    by_cases ho : p ≤ v
    · rw [if_pos ho, if_pos ho]
      rw [decide_eq_true ho] at HF
      go_enter Tryd.func52, Tryd.ntmps52
      go_wp2_with (first | (go_at_call 44; refine (HF.out neg _ (Chg.alloc _ _ _)).mono ?_; rintro e w2 ⟨r, rfl, hO, hc'⟩; obtain ⟨c0, c1⟩ := two_cells (hc'.heap (al_new (w := w) (o := .cells #[.bool neg, .slice a L cap] 54) rfl) (by simp))) | (go_at_call 49; refine (HC.out neg _ ((Chg.alloc _ _ _).trans hc')).mono ?_; rintro e w3 ⟨rfl, hc2⟩))
      go_returns
      exact ⟨r, rfl, own_base hO (by simp), (Chg.alloc _ _ _).trans hc'⟩
    · rw [if_neg ho, if_neg ho]
      rw [decide_eq_false ho] at HF
      have HCN := hid (show codeN neg v = if neg = true then 1 else 2 from if_neg hz)
      clear hz
      cases neg
      · go_enter Tryd.func52, Tryd.ntmps52
        go_wp2_with (first | (go_at_call 44; refine (HF.out false _ (Chg.alloc _ _ _)).mono ?_; rintro e w2 ⟨r, rfl, hO, hc'⟩; obtain ⟨c0, c1⟩ := two_cells (hc'.heap (al_new (w := w) (o := .cells #[.bool false, .slice a L cap] 54) rfl) (by simp))) | (go_at_call 49; refine (HC.out false _ ((Chg.alloc _ _ _).trans hc')).mono ?_; rintro e w3 ⟨rfl, hc2⟩))
        go_returns
        exact ⟨r, by first | rfl | (rw [HCN.out]; rfl) | rw [HCN.out], own_keep (own_base hO (by simp)) hc2 (by simp), ((Chg.alloc _ _ _).trans hc').trans hc2⟩
      · go_enter Tryd.func52, Tryd.ntmps52
        go_wp2_with (first | (go_at_call 44; refine (HF.out true _ (Chg.alloc _ _ _)).mono ?_; rintro e w2 ⟨r, rfl, hO, hc'⟩; obtain ⟨c0, c1⟩ := two_cells (hc'.heap (al_new (w := w) (o := .cells #[.bool true, .slice a L cap] 54) rfl) (by simp))) | (go_at_call 49; refine (HC.out true _ ((Chg.alloc _ _ _).trans hc')).mono ?_; rintro e w3 ⟨rfl, hc2⟩))
        go_returns
        exact ⟨r, by first | rfl | (rw [HCN.out]; rfl) | rw [HCN.out], own_keep (own_base hO (by simp)) hc2 (by simp), ((Chg.alloc _ _ _).trans hc').trans hc2⟩

end Go.Proofs.YtmklkfogddppmaaDoor

/- Sum, Of, two and the sums of the reference of layer 4. -/
namespace Go.Proofs.YtmklkfogddppmaaDoor
open Go.RowKit Go.Shelf
set_option linter.unusedVariables false
set_option linter.unusedSimpArgs false

theorem Dg.keepN {w w' : World} {u : Value} {n g : Nat} {x : Bool} {v : Value} {T : TypeId} {fr : Nat × Nat} (h : Dg w u n) (hb : w.heap[g]? = some (.cells #[.bool x, v] T fr)) (hv : ∀ k i, v ≠ .int k i) (hc : Chg [g] w w') : Dg w' u n := by
  obtain ⟨a, cap, hu, h1, h2, h3, h4⟩ := h
  refine ⟨a, cap, hu, h1, h2, h3, fun y hy => ⟨(h4 y hy).1, fun i hi => ?_⟩⟩
  have hcell := (h4 y hy).2 i hi
  refine hc.cell hcell (fun e => ?_)
  have e2 : y.block = g := by simpa using e
  rw [e2, cell_of_row w g _ _ _ _ hb] at hcell
  simp only [List.getElem_map, en] at hcell
  rcases (by omega : y.off + i = 0 ∨ y.off + i = 1 ∨ 2 ≤ y.off + i) with h0 | h0 | h0
  · rw [h0] at hcell; simp at hcell
  · rw [h0] at hcell; simp at hcell; exact hv _ _ hcell
  · rw [Array.getElem?_eq_none (by simpa using h0)] at hcell; cases hcell

set_option maxRecDepth 100000 in
set_option maxHeartbeats 1000000 in
theorem Sum_any (w : World) (n1 n2 : Bool) (x y : Nat) (u1 u2 : Value) (h1 : Dg w u1 x) (h2 : Dg w u2 y) (hx : x < 10 ^ 200) (hy : y < 10 ^ 200) :
    Calls Tryd.prog 50 #[.agg #[.bool n1, u1], .agg #[.bool n2, u2]] w fun e w' => ∃ r, e = .returned (.agg #[.bool (addS n1 x n2 y).1, r]) ∧
      Dg w' r (addS n1 x n2 y).2 ∧ Chg [] w w' := by
  have P := hid (fun W (hc : Chg [] w W) => rplus_any W u1 u2 x y (h1.keep hc) (h2.keep hc) hx hy)
  have M1 := hid (fun W (hc : Chg [] w W) (hle : y ≤ x) => rminus_any W u1 u2 x y (h1.keep hc) (h2.keep hc) hx hle)
  have M2 := hid (fun W (hc : Chg [] w W) (hle : x ≤ y) => rminus_any W u2 u1 y x (h2.keep hc) (h1.keep hc) hy hle)
  have LS := hid (fun W (hc : Chg [] w W) => rLess_any W u1 u2 x y (h1.keep hc) (h2.keep hc))
  obtain ⟨a, L, ca, rfl, -, -, -⟩ := h1.shape
  obtain ⟨b, K, cb, rfl, -, -, -⟩ := h2.shape
  clear h1 h2 hx hy
  unfold addS
  have hc0 := ((Chg.alloc [] w (.cells #[.bool n1, .slice a L ca] 54)).trans (Chg.alloc [] _ (.cells #[.bool n2, .slice b K cb] 54))).trans (Chg.alloc [] _ (.cells #[.bool false, .slice none 0 0] 54))
  have HB1 := hid (al_old (o := .cells #[.bool false, .slice none 0 0] 54) (al_old (o := .cells #[.bool n2, .slice b K cb] 54) (heap_alloc_new w (.cells #[.bool n1, .slice a L ca] 54))))
  have HB2 := hid (al_old (o := .cells #[.bool false, .slice none 0 0] 54) (al_new (w := w.alloc (.cells #[.bool n1, .slice a L ca] 54)) (o := .cells #[.bool n2, .slice b K cb] 54) (k := w.heap.size + 1) (by simp)))
  have HB3 := hid (al_new (w := (w.alloc (.cells #[.bool n1, .slice a L ca] 54)).alloc (.cells #[.bool n2, .slice b K cb] 54)) (o := .cells #[.bool false, .slice none 0 0] 54) (k := w.heap.size + 1 + 1) (by simp))
  by_cases hn : n1 = n2
  · subst hn
    rw [if_pos rfl]
    have e0 : (n1 == n1) = true := by simp
    go_enter Tryd.func50, Tryd.ntmps50
    go_upto_region 2 with (fail)
    generalize ((w.alloc (.cells #[.bool n1, .slice a L ca] 54)).alloc (.cells #[.bool n1, .slice b K cb] 54)).alloc (.cells #[.bool false, .slice none 0 0] 54) = W1 at *
    obtain ⟨c0, c1⟩ := two_cells HB1.out
    obtain ⟨d0, d1⟩ := two_cells HB2.out
    go_region_held3 (fun w' => w'.cell? ⟨w.heap.size, 0, none⟩ = some (.bool n1) ∧ w'.cell? ⟨w.heap.size, 1, none⟩ = some (.slice a L ca) ∧ w'.cell? ⟨w.heap.size + 1, 1, none⟩ = some (.slice b K cb))
      (first | (go_keep; done) | (go_split_ands; refine ⟨?_, ?_, ?_⟩ <;> first | exact hc'.cell (by assumption) (by simp) | exact s5.out.cell (by assumption) (by simp <;> omega)))
      (first | (go_at_call 61; refine (P.out _ (hc0.trans (Chg.drew [] _))).mono ?_; rintro e w2 ⟨u, rfl, hdg, hc'⟩; have HDG := hid hdg; obtain ⟨ua, uL, uc, rfl, -, -, -⟩ := hdg.shape; have HC := hid ((hc0.trans (Chg.drew [] _)).trans hc'); have HB4 := hid (hc'.heap HB3.out (by simp)); obtain ⟨s0, s1, s2, s3, s4, s5⟩ := store2 (.bool n1) (.slice ua uL uc) HB4.out; obtain ⟨z0, z1⟩ := two_cells s4.out))
    go_wp2_with (fail)
    refine ⟨by simp, ?_⟩
    refine ⟨.agg #[.bool n1, .slice ua uL uc], ?_, ⟨_, rfl, ?_, ?_⟩⟩
    · simp [results, Tryd.f50, go_sem, z0, z1]
    · exact HDG.out.keepN HB4.out (fun _ _ h => by cases h) s5.out
    · exact HC.out.then s5.out (by simp; omega)
  · rw [if_neg hn]
    have e0 : (n1 == n2) = false := beq_eq_false_iff_ne.2 hn
    have l0 := fun W hc => LS.out W hc
    clear hn
    by_cases hlt : x < y
    · rw [if_pos hlt]
      rw [decide_eq_true hlt] at LS
      have HLE : Hid (x ≤ y) := Nat.le_of_lt hlt
      clear hlt l0
      go_enter Tryd.func50, Tryd.ntmps50
      go_upto_region 4 with (go_at_call 67; refine (LS.out _ hc0).mono ?_; rintro e w2 ⟨rfl, rfl⟩)
      generalize ((w.alloc (.cells #[.bool n1, .slice a L ca] 54)).alloc (.cells #[.bool n2, .slice b K cb] 54)).alloc (.cells #[.bool false, .slice none 0 0] 54) = W1 at *
      obtain ⟨c0, c1⟩ := two_cells HB1.out
      obtain ⟨d0, d1⟩ := two_cells HB2.out
      go_region_held3 (fun w' => w'.cell? ⟨w.heap.size + 1, 0, none⟩ = some (.bool n2) ∧ w'.cell? ⟨w.heap.size, 1, none⟩ = some (.slice a L ca) ∧ w'.cell? ⟨w.heap.size + 1, 1, none⟩ = some (.slice b K cb))
        (first | (go_keep; done) | (go_split_ands; refine ⟨?_, ?_, ?_⟩ <;> first | exact hc'.cell (by assumption) (by simp) | exact s5.out.cell (by assumption) (by simp <;> omega)))
        (first | (go_at_call 68; refine (M2.out _ (hc0.trans (Chg.drew [] _)) HLE.out).mono ?_; rintro e w2 ⟨u, rfl, hdg, hc'⟩; have HDG := hid hdg; obtain ⟨ua, uL, uc, rfl, -, -, -⟩ := hdg.shape; have HC := hid ((hc0.trans (Chg.drew [] _)).trans hc'); have HB4 := hid (hc'.heap HB3.out (by simp)); obtain ⟨s0, s1, s2, s3, s4, s5⟩ := store2 (.bool n2) (.slice ua uL uc) HB4.out; obtain ⟨z0, z1⟩ := two_cells s4.out))
      go_wp2_with (fail)
      refine ⟨by simp, ?_⟩
      refine ⟨.agg #[.bool n2, .slice ua uL uc], ?_, ⟨_, rfl, ?_, ?_⟩⟩
      · simp [results, Tryd.f50, go_sem, z0, z1]
      · exact HDG.out.keepN HB4.out (fun _ _ h => by cases h) s5.out
      · exact HC.out.then s5.out (by simp; omega)
    · rw [if_neg hlt]
      rw [decide_eq_false hlt] at LS
      have HLE : Hid (y ≤ x) := Nat.le_of_not_lt hlt
      clear hlt l0
      go_enter Tryd.func50, Tryd.ntmps50
      go_upto_region 5 with (go_at_call 67; refine (LS.out _ hc0).mono ?_; rintro e w2 ⟨rfl, rfl⟩)
      generalize ((w.alloc (.cells #[.bool n1, .slice a L ca] 54)).alloc (.cells #[.bool n2, .slice b K cb] 54)).alloc (.cells #[.bool false, .slice none 0 0] 54) = W1 at *
      obtain ⟨c0, c1⟩ := two_cells HB1.out
      obtain ⟨d0, d1⟩ := two_cells HB2.out
      go_region_held3 (fun w' => w'.cell? ⟨w.heap.size, 0, none⟩ = some (.bool n1) ∧ w'.cell? ⟨w.heap.size, 1, none⟩ = some (.slice a L ca) ∧ w'.cell? ⟨w.heap.size + 1, 1, none⟩ = some (.slice b K cb))
        (first | (go_keep; done) | (go_split_ands; refine ⟨?_, ?_, ?_⟩ <;> first | exact hc'.cell (by assumption) (by simp) | exact s5.out.cell (by assumption) (by simp <;> omega)))
        (first | (go_at_call 68; refine (M1.out _ (hc0.trans (Chg.drew [] _)) HLE.out).mono ?_; rintro e w2 ⟨u, rfl, hdg, hc'⟩; have HDG := hid hdg; obtain ⟨ua, uL, uc, rfl, -, -, -⟩ := hdg.shape; have HC := hid ((hc0.trans (Chg.drew [] _)).trans hc'); have HB4 := hid (hc'.heap HB3.out (by simp)); obtain ⟨s0, s1, s2, s3, s4, s5⟩ := store2 (.bool n1) (.slice ua uL uc) HB4.out; obtain ⟨z0, z1⟩ := two_cells s4.out))
      go_wp2_with (fail)
      refine ⟨by simp, ?_⟩
      refine ⟨.agg #[.bool n1, .slice ua uL uc], ?_, ⟨_, rfl, ?_, ?_⟩⟩
      · simp [results, Tryd.f50, go_sem, z0, z1]
      · exact HDG.out.keepN HB4.out (fun _ _ h => by cases h) s5.out
      · exact HC.out.then s5.out (by simp; omega)

end Go.Proofs.YtmklkfogddppmaaDoor

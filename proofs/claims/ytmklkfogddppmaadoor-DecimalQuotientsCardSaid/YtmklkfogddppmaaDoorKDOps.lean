/- pair of jobshop/decimal. -/
import Derived.Test.YtmklkfogddppmaaDoorKDRead
namespace Go.Proofs.YtmklkfogddppmaaDoor
open Go.RowKit Go.Shelf
set_option linter.unusedVariables false
set_option linter.unusedSimpArgs false

/-- the code of two operands -/
def codeS (a b : Bs) : Int := if okSize a.length && okSize b.length then (if fok a && fok b then 0 else 7) else 6

theorem num_zero : num false 0 = .agg #[.bool false, .int .u64 0, .int .u64 0] := rfl

set_option maxHeartbeats 1000000 in
theorem pair_size (w : World) (va vb : Value) (a b : Bs) (hva : Reads w va a) (hvb : Reads w vb b) (h : (okSize a.length && okSize b.length) = false) :
    Calls Tryd.prog 47 #[va, vb] w fun e w' => e = .returned (.tuple #[num false 0, num false 0, .int .i64 6]) ∧ Chg [] w w' := by
  obtain ⟨pa, ca, rfl⟩ := hva.shape (L := a.length) rfl
  obtain ⟨pb, cb, rfl⟩ := hvb.shape (L := b.length) rfl
  have s1 := fun W => dsize_any (a.length : Int) W
  have s2 := fun W => dsize_any (b.length : Int) W
  rw [num_zero]
  cases h1 : okSize a.length
  · rw [h1] at s1
    go_enter Tryd.func47, Tryd.ntmps47
    go_wp2_with (go_at_call 53; refine (s1 _).mono ?_; rintro e w2 ⟨rfl, rfl⟩)
    refine ⟨by simp, ?_⟩
    refine ⟨.tuple #[.agg #[.bool false, .int .u64 0, .int .u64 0], .agg #[.bool false, .int .u64 0, .int .u64 0], .int .i64 6], ?_, rfl, (Chg.alloc _ _ _).trans (Chg.alloc _ _ _)⟩
    simp [results, Tryd.f47, go_sem]
  · rw [h1, Bool.true_and] at h
    have h2 := h
    clear h s1 s2
    go_enter Tryd.func47, Tryd.ntmps47
    go_wp2_with (go_at_call 53; refine (dsize_any _ _).mono ?_; rintro e w2 ⟨rfl, rfl⟩; first | rw [h1] | rw [h2])
    refine ⟨by simp, ?_⟩
    refine ⟨.tuple #[.agg #[.bool false, .int .u64 0, .int .u64 0], .agg #[.bool false, .int .u64 0, .int .u64 0], .int .i64 6], ?_, rfl, (Chg.alloc _ _ _).trans (Chg.alloc _ _ _)⟩
    simp [results, Tryd.f47, go_sem]

set_option maxHeartbeats 1000000 in
theorem pair_read (w : World) (va vb : Value) (a b : Bs) (hva : Reads w va a) (hvb : Reads w vb b) (h1 : okSize a.length = true) (h2 : okSize b.length = true) (c : Int) (n1 n2 : Bool) (v1 v2 : Nat)
    (hc : (fok a && fok b) = true ∧ c = 0 ∧ n1 = rn a ∧ v1 = rv a ∧ n2 = rn b ∧ v2 = rv b ∨ (fok a && fok b) = false ∧ c = 7 ∧ n1 = false ∧ v1 = 0 ∧ n2 = false ∧ v2 = 0) :
    Calls Tryd.prog 47 #[va, vb] w fun e w' => e = .returned (.tuple #[num n1 v1, num n2 v2, .int .i64 c]) ∧ Chg [] w w' := by
  have r1 := fun (W : World) (hc : Chg [] w W) => read_any W va a (hva.keep hc (by simp))
  have r2 := fun (W : World) (hc : Chg [] w W) => read_any W vb b (hvb.keep hc (by simp))
  obtain ⟨pa, ca, rfl⟩ := hva.shape (L := a.length) rfl
  obtain ⟨pb, cb, rfl⟩ := hvb.shape (L := b.length) rfl
  have s1 := fun W => dsize_any (a.length : Int) W
  have s2 := fun W => dsize_any (b.length : Int) W
  clear s1 s2
  obtain ⟨xh, xl, b1, b2, q1, q2⟩ := num_parts (rn a) (rv a) (by have := rv_lt a; omega)
  obtain ⟨yh, yl, b3, b4, q3, q4⟩ := num_parts (rn b) (rv b) (by have := rv_lt b; omega)
  rw [q2] at r1
  rw [q4] at r2
  have HC := hid hc
  have Q2 := hid q2
  have Q4 := hid q4
  clear q1 q2 q3 q4 hc hva hvb
  go_enter Tryd.func47, Tryd.ntmps47
  go_upto_region 3 with (go_at_call 53; refine (dsize_any _ _).mono ?_; rintro e w2 ⟨rfl, rfl⟩; first | rw [h1] | rw [h2])
  have HW1 := hid (al_old (o := .cells #[.bool false, .int .u64 0, .int .u64 0] 43 (0, 0)) (heap_alloc_new w (.cells #[.bool false, .int .u64 0, .int .u64 0] 43 (0, 0))))
  have HW2 := hid (al_new (w := w.alloc (.cells #[.bool false, .int .u64 0, .int .u64 0] 43 (0, 0))) (o := .cells #[.bool false, .int .u64 0, .int .u64 0] 43 (0, 0)) (k := w.heap.size + 1) (by simp))
  have hc0 := (Chg.alloc [] w (.cells #[.bool false, .int .u64 0, .int .u64 0] 43 (0, 0))).trans (Chg.alloc [] _ (.cells #[.bool false, .int .u64 0, .int .u64 0] 43 (0, 0)))
  generalize (w.alloc (.cells #[.bool false, .int .u64 0, .int .u64 0] 43 (0, 0))).alloc (.cells #[.bool false, .int .u64 0, .int .u64 0] 43 (0, 0)) = W0 at *
  go_upto_region 4 with (go_at_call 57; refine (r1 _ hc0).mono ?_; rintro e w2 ⟨rfl, hc1⟩; obtain ⟨s0, s1, s2, s3, s4, s5, s6, s7⟩ := store3 (.bool (rn a)) (.int .u64 (xh : Int)) (.int .u64 (xl : Int)) (hc1.heap HW1.out (by simp)))
  have HX1 := s6
  have HX2 := hid (s7.out.heap (hc1.heap HW2.out (by simp)) (by simp))
  have hc2 := (hc0.trans hc1).then s7.out (by simp)
  clear s0 s1 s2 s3 s4 s5 s6 s7 hc1 hc0 HW1 HW2
  generalize (((w2.setCell ⟨w.heap.size, 0, none⟩ (.bool (rn a))).setCell ⟨w.heap.size, 1, none⟩ (.int .u64 (xh : Int))).setCell ⟨w.heap.size, 2, none⟩ (.int .u64 (xl : Int))) = W1 at *
  go_upto_region 5 with (go_at_call 57; refine (r2 _ hc2).mono ?_; rintro e w3 ⟨rfl, hc1⟩; obtain ⟨s0, s1, s2, s3, s4, s5, s6, s7⟩ := store3 (.bool (rn b)) (.int .u64 (yh : Int)) (.int .u64 (yl : Int)) (hc1.heap HX2.out (by simp)))
  have HY2 := s6
  have HY1 := hid (s7.out.heap (hc1.heap HX1.out (by simp)) (by simp))
  have hc3 := (hc2.trans hc1).then s7.out (by simp)
  clear s0 s1 s2 s3 s4 s5 s6 s7 hc1 hc2 HX1 HX2
  generalize (((w3.setCell ⟨w.heap.size + 1, 0, none⟩ (.bool (rn b))).setCell ⟨w.heap.size + 1, 1, none⟩ (.int .u64 (yh : Int))).setCell ⟨w.heap.size + 1, 2, none⟩ (.int .u64 (yl : Int))) = W2 at *
  have bad : ∀ (W : World), W.heap[w.heap.size]? = some (.cells #[.bool (rn a), .int .u64 (xh : Int), .int .u64 (xl : Int)] 43 (0, 0)) → W.heap[w.heap.size + 1]? = some (.cells #[.bool (rn b), .int .u64 (yh : Int), .int .u64 (yl : Int)] 43 (0, 0)) → True := fun _ _ _ => trivial
  have good : (fok a && fok b) = true → c = 0 ∧ n1 = rn a ∧ v1 = rv a ∧ n2 = rn b ∧ v2 = rv b := fun h => by
    rcases HC.out with h' | h'
    · exact h'.2
    · rw [h] at h'; cases h'.1
  have badd : (fok a && fok b) = false → c = 7 ∧ n1 = false ∧ v1 = 0 ∧ n2 = false ∧ v2 = 0 := fun h => by
    rcases HC.out with h' | h'
    · rw [h] at h'; cases h'.1
    · exact h'.2
  have G := hid good
  have B := hid badd
  clear good badd bad HC r1 r2
  obtain ⟨y0, y1, y2, y3, y4, y5, HZ1, hz1⟩ := store3 (.bool false) (.int .u64 0) (.int .u64 0) HY1.out
  obtain ⟨z0, z1, z2, z3, z4, z5, HZ2, hz2⟩ := store3 (.bool false) (.int .u64 0) (.int .u64 0) (hz1.out.heap HY2.out (by simp))
  obtain ⟨d0, d1, d2⟩ := three_cells HZ2.out
  obtain ⟨d3, d4, d5⟩ := three_cells (hz2.out.heap HZ1.out (by simp))
  have hcb := (hc3.then hz1.out (by simp)).then hz2.out (by simp)
  cases ha : fok a
  · have hG := B.out (by rw [ha]; rfl)
    obtain ⟨rfl, rfl, rfl, rfl, rfl⟩ := hG
    clear G B
    go_wp2_with (fail)
    refine ⟨by simp, ?_⟩
    refine ⟨.tuple #[num false 0, num false 0, .int .i64 7], ?_, rfl, hcb⟩
    simp [num, results, Tryd.f47, go_sem, d0, d1, d2, d3, d4, d5]
  · cases hb : fok b
    · have hG := B.out (by rw [ha, hb]; rfl)
      obtain ⟨rfl, rfl, rfl, rfl, rfl⟩ := hG
      clear G B
      go_wp2_with (fail)
      refine ⟨by simp, ?_⟩
      refine ⟨.tuple #[num false 0, num false 0, .int .i64 7], ?_, rfl, hcb⟩
      simp [num, results, Tryd.f47, go_sem, d0, d1, d2, d3, d4, d5]
    · have hG := G.out (by rw [ha, hb]; rfl)
      obtain ⟨rfl, rfl, rfl, rfl, rfl⟩ := hG
      clear G B
      clear y0 y1 y2 y3 y4 y5 HZ1 hz1 z0 z1 z2 z3 z4 z5 HZ2 hz2 d0 d1 d2 d3 d4 d5 hcb
      obtain ⟨y0, y1, y2, y3, y4, y5, HZ1, hz1⟩ := store3 (.bool (rn a)) (.int .u64 (xh : Int)) (.int .u64 (xl : Int)) HY1.out
      obtain ⟨z0, z1, z2, z3, z4, z5, HZ2, hz2⟩ := store3 (.bool (rn b)) (.int .u64 (yh : Int)) (.int .u64 (yl : Int)) (hz1.out.heap HY2.out (by simp))
      obtain ⟨d0, d1, d2⟩ := three_cells HZ2.out
      obtain ⟨d3, d4, d5⟩ := three_cells (hz2.out.heap HZ1.out (by simp))
      obtain ⟨u0, u1, u2⟩ := three_cells HY2.out
      go_wp2_with (fail)
      go_region_with (fail)
      all_goals
        go_wp2_with (fail)
        refine ⟨by simp [Act.put], ?_⟩
        have hcb := (hc3.then hz1.out (by simp)).then hz2.out (by simp)
        refine ⟨.tuple #[num (rn a) (rv a), num (rn b) (rv b), .int .i64 0], ?_, rfl, by first | exact hcb.trans (Chg.drew _ _) | exact hcb | exact (hcb.trans (Chg.drew _ _)).trans (Chg.drew _ _)⟩
        rw [Q2.out, Q4.out]
        simp [Act.put, results, Tryd.f47, go_sem, d0, d1, d2, d3, d4, d5]

/-- the two numbers of operands, or none -/
def pn (c : Int) (a : Bs) : Bool := if c = 0 then rn a else false
def pv (c : Int) (a : Bs) : Nat := if c = 0 then rv a else 0
theorem pair_any (w : World) (va vb : Value) (a b : Bs) (hva : Reads w va a) (hvb : Reads w vb b) :
    Calls Tryd.prog 47 #[va, vb] w fun e w' => e = .returned (.tuple #[num (pn (codeS a b) a) (pv (codeS a b) a), num (pn (codeS a b) b) (pv (codeS a b) b), .int .i64 (codeS a b)]) ∧ Chg [] w w' := by
  unfold pn pv
  by_cases h : (okSize a.length && okSize b.length) = true
  · obtain ⟨h1, h2⟩ := Bool.and_eq_true_iff.1 h
    cases hf : fok a && fok b
    · have hc : codeS a b = 7 := by unfold codeS; rw [h, hf]; rfl
      rw [hc]
      exact pair_read w va vb a b hva hvb h1 h2 7 _ _ _ _ (.inr ⟨hf, rfl, rfl, rfl, rfl, rfl⟩)
    · have hc : codeS a b = 0 := by unfold codeS; rw [h, hf]; rfl
      rw [hc]
      exact pair_read w va vb a b hva hvb h1 h2 0 _ _ _ _ (.inl ⟨hf, rfl, rfl, rfl, rfl, rfl⟩)
  · have h' : (okSize a.length && okSize b.length) = false := by simpa using h
    have hc : codeS a b = 6 := by unfold codeS; rw [h']; rfl
    rw [hc]
    exact pair_size w va vb a b hva hvb h'

end Go.Proofs.YtmklkfogddppmaaDoor

/- operands of jobshop/decimal. -/
namespace Go.Proofs.YtmklkfogddppmaaDoor
open Go.RowKit Go.Shelf
set_option linter.unusedVariables false
set_option linter.unusedSimpArgs false

/-- whether the lengths of two operands serve -/
def okOps (a b : Bs) : Bool := okSize a.length && okSize b.length && decide (b.length ≤ 8) && decide (b.length < a.length)
/-- the code of the operands of a multiplication or division -/
def codeM (a b : Bs) : Int := if okOps a b then codeS a b else 6

set_option maxHeartbeats 1000000 in
theorem ops_bad (w : World) (pa pb : Option Addr) (L M ca cb : Nat) (hb : (okSize L && okSize M && decide (M ≤ 8) && decide (M < L)) = false) :
    Calls Tryd.prog 35 #[.slice pa L ca, .slice pb M cb] w fun e w' => e = .returned (.tuple #[num false 0, num false 0, .int .i64 6]) ∧ Chg [] w w' := by
  rw [num_zero]
  have fin : ∀ (x : Value), x = .tuple #[.agg #[.bool false, .int .u64 0, .int .u64 0], .agg #[.bool false, .int .u64 0, .int .u64 0], .int .i64 6] → x = .tuple #[.agg #[.bool false, .int .u64 0, .int .u64 0], .agg #[.bool false, .int .u64 0, .int .u64 0], .int .i64 6] := fun _ h => h
  cases h1 : okSize (L : Int)
  · clear hb fin
    go_enter Tryd.func35, Tryd.ntmps35
    go_wp2_with (go_at_call 53; refine (dsize_any _ _).mono ?_; rintro e w2 ⟨rfl, rfl⟩; first | rw [h1] | rw [h2])
    refine ⟨by simp, ?_⟩
    refine ⟨.tuple #[.agg #[.bool false, .int .u64 0, .int .u64 0], .agg #[.bool false, .int .u64 0, .int .u64 0], .int .i64 6], ?_, rfl, (Chg.alloc _ _ _).trans (Chg.alloc _ _ _)⟩
    simp [results, Tryd.f35, go_sem]
  · cases h2 : okSize (M : Int)
    · clear hb fin
      go_enter Tryd.func35, Tryd.ntmps35
      go_wp2_with (go_at_call 53; refine (dsize_any _ _).mono ?_; rintro e w2 ⟨rfl, rfl⟩; first | rw [h1] | rw [h2])
      refine ⟨by simp, ?_⟩
      refine ⟨.tuple #[.agg #[.bool false, .int .u64 0, .int .u64 0], .agg #[.bool false, .int .u64 0, .int .u64 0], .int .i64 6], ?_, rfl, (Chg.alloc _ _ _).trans (Chg.alloc _ _ _)⟩
      simp [results, Tryd.f35, go_sem]
    · by_cases h3 : (8 : Int) < (M : Int)
      · clear hb fin
        go_enter Tryd.func35, Tryd.ntmps35
        go_wp2_with (go_at_call 53; refine (dsize_any _ _).mono ?_; rintro e w2 ⟨rfl, rfl⟩; first | rw [h1] | rw [h2])
        refine ⟨by simp, ?_⟩
        refine ⟨.tuple #[.agg #[.bool false, .int .u64 0, .int .u64 0], .agg #[.bool false, .int .u64 0, .int .u64 0], .int .i64 6], ?_, rfl, (Chg.alloc _ _ _).trans (Chg.alloc _ _ _)⟩
        simp [results, Tryd.f35, go_sem]
      · have h4 : (L : Int) ≤ (M : Int) := by
          rw [h1, h2, decide_eq_true (by omega)] at hb
          simp at hb; omega
        clear hb fin
        go_enter Tryd.func35, Tryd.ntmps35
        go_wp2_with (go_at_call 53; refine (dsize_any _ _).mono ?_; rintro e w2 ⟨rfl, rfl⟩; first | rw [h1] | rw [h2])
        refine ⟨by simp, ?_⟩
        refine ⟨.tuple #[.agg #[.bool false, .int .u64 0, .int .u64 0], .agg #[.bool false, .int .u64 0, .int .u64 0], .int .i64 6], ?_, rfl, (Chg.alloc _ _ _).trans (Chg.alloc _ _ _)⟩
        simp [results, Tryd.f35, go_sem]

set_option maxHeartbeats 1000000 in
theorem ops_good (w : World) (pa pb : Option Addr) (L M ca cb : Nat) (h1 : okSize (L : Int) = true) (h2 : okSize (M : Int) = true) (h3 : M ≤ 8) (h4 : M < L) (n1 n2 : Bool) (v1 v2 : Nat) (c : Int)
    (hv1 : v1 < 10 ^ 31) (hv2 : v2 < 10 ^ 31)
    (P : ∀ W, Chg [] w W → Calls Tryd.prog 47 #[.slice pa L ca, .slice pb M cb] W fun e w' => e = .returned (.tuple #[num n1 v1, num n2 v2, .int .i64 c]) ∧ Chg [] W w') :
    Calls Tryd.prog 35 #[.slice pa L ca, .slice pb M cb] w fun e w' => e = .returned (.tuple #[num n1 v1, num n2 v2, .int .i64 c]) ∧ Chg [] w w' := by
  obtain ⟨xh, xl, -, -, -, q2⟩ := num_parts n1 v1 (by omega)
  obtain ⟨yh, yl, -, -, -, q4⟩ := num_parts n2 v2 (by omega)
  rw [q2, q4] at P ⊢
  clear q2 q4 hv1 hv2
  have e3 : ¬ (8 : Int) < (M : Int) := by omega
  have e4 : ¬ (L : Int) ≤ (M : Int) := by omega
  clear h3 h4
  go_enter Tryd.func35, Tryd.ntmps35
  go_wp2_with (first
    | (go_at_call 53; refine (dsize_any _ _).mono ?_; rintro e w2 ⟨rfl, rfl⟩; first | rw [h1] | rw [h2])
    | (go_at_call 47; refine (P _ ((Chg.alloc _ _ _).trans (Chg.alloc _ _ _))).mono ?_; rintro e w2 ⟨rfl, hc⟩; have hA := hc.heap (al_old (al_new rfl)) (by simp); have hB := hc.heap (al_new (k := w.heap.size + 1) (by simp)) (by simp); obtain ⟨y0, y1, y2, y3, y4, y5, HZ1, hz1⟩ := store3 (.bool n1) (.int .u64 (xh : Int)) (.int .u64 (xl : Int)) hA; obtain ⟨z0, z1, z2, z3, z4, z5, HZ2, hz2⟩ := store3 (.bool n2) (.int .u64 (yh : Int)) (.int .u64 (yl : Int)) (hz1.out.heap hB (by simp))))
  obtain ⟨d0, d1, d2⟩ := three_cells HZ2.out
  obtain ⟨d3, d4, d5⟩ := three_cells (hz2.out.heap HZ1.out (by simp))
  refine ⟨by simp, ?_⟩
  refine ⟨.tuple #[.agg #[.bool n1, .int .u64 (xh : Int), .int .u64 (xl : Int)], .agg #[.bool n2, .int .u64 (yh : Int), .int .u64 (yl : Int)], .int .i64 c], ?_, rfl, ((((Chg.alloc [] w _).trans (Chg.alloc _ _ _)).trans hc).then hz1.out (by simp)).then hz2.out (by simp)⟩
  simp [results, Tryd.f35, go_sem, d0, d1, d2, d3, d4, d5]

theorem ops_any (w : World) (va vb : Value) (a b : Bs) (hva : Reads w va a) (hvb : Reads w vb b) :
    Calls Tryd.prog 35 #[va, vb] w fun e w' => e = .returned (.tuple #[num (pn (codeM a b) a) (pv (codeM a b) a), num (pn (codeM a b) b) (pv (codeM a b) b), .int .i64 (codeM a b)]) ∧ Chg [] w w' := by
  have P := fun (W : World) (hc : Chg [] w W) => pair_any W va vb a b (hva.keep hc (by simp)) (hvb.keep hc (by simp))
  obtain ⟨pa, ca, rfl⟩ := hva.shape (L := a.length) rfl
  obtain ⟨pb, cb, rfl⟩ := hvb.shape (L := b.length) rfl
  cases h : okOps a b
  · have hc : codeM a b = 6 := by unfold codeM; rw [h]; rfl
    rw [hc]
    exact ops_bad w pa pb _ _ ca cb h
  · have hc : codeM a b = codeS a b := by unfold codeM; rw [h]; rfl
    rw [hc]
    unfold okOps at h
    simp only [Bool.and_eq_true, decide_eq_true_eq] at h
    obtain ⟨⟨⟨h1, h2⟩, h3⟩, h4⟩ := h
    have hl : ∀ (c : Int) (x : Bs), pv c x < 10 ^ 31 := fun c x => by
      unfold pv; split
      · exact rv_lt x
      · decide
    exact ops_good w pa pb _ _ ca cb h1 h2 h3 h4 _ _ _ _ _ (hl _ _) (hl _ _) P

end Go.Proofs.YtmklkfogddppmaaDoor

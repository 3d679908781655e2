/- Compare of jobshop/decimal. -/
import Derived.Test.YtmklkfogddppmaaDoorKDZap
import Derived.Test.YtmklkfogddppmaaDoorKDTwo
namespace Go.Proofs.YtmklkfogddppmaaDoor
open Go.RowKit Go.Shelf
set_option linter.unusedVariables false
set_option linter.unusedSimpArgs false

/-- the condition code of a number -/
def ccS (s : Bool × Nat) : Int := if s.2 = 0 then 0 else if s.1 then 1 else 2
/-- P4.2 -/
def cmpF (a b : Bs) : Int × Int := if codeS a b = 0 then (ccS (sumN a b true), 0) else (0, codeS a b)

set_option maxHeartbeats 1000000 in
theorem Compare_any (w : World) (va vb : Value) (a b : Bs) (hva : Reads w va a) (hvb : Reads w vb b) :
    Calls Tryd.prog 19 #[va, vb] w fun e w' => e = .returned (.tuple #[.int .i64 (cmpF a b).1, .int .i64 (cmpF a b).2]) ∧ Chg [] w w' := by
  have P := pair_any w va vb a b hva hvb
  by_cases hc : codeS a b = 0
  · unfold cmpF
    rw [if_pos hc]
    unfold pn pv at P
    rw [if_pos hc, if_pos hc, if_pos hc, if_pos hc, hc] at P
    have A := fun W => add_num (rn a) (!rn b) (rv a) (rv b) W (by have := rv_lt a; have := rv_lt b; omega)
    have hS : addS (rn a) (rv a) (!rn b) (rv b) = sumN a b true := rfl
    rw [hS] at A
    have hlt := sumN_lt a b true
    generalize (sumN a b true) = s at *
    obtain ⟨sn, sv⟩ := s
    simp only at A hlt ⊢
    obtain ⟨xh, xl, -, -, -, q2⟩ := num_parts (rn a) (rv a) (by have := rv_lt a; omega)
    obtain ⟨yh, yl, -, p1, p2, q4⟩ := num_parts (rn b) (rv b) (by have := rv_lt b; omega)
    have q5 := num_of (!rn b) yh yl (rv b) p1 p2
    clear p1 p2
    obtain ⟨zh, zl, -, -, -, q6⟩ := num_parts sn sv (by omega)
    have D := fun W => zero_num sn sv W (by omega)
    rw [q2, q4] at P
    rw [q2, q5, q6] at A
    rw [q6] at D
    clear q2 q4 q5 q6 hS hva hvb hc hlt
    have hfin : ∀ x : Int, x = ccS (sn, sv) → Value.int .i64 x = .int .i64 (ccS (sn, sv)) := fun x h => by rw [h]
    have HF : Hid (ccS (sn, sv) = if sv = 0 then 0 else if sn = true then 1 else 2) := rfl
    generalize ccS (sn, sv) = C at *
    clear hfin
    go_enter Tryd.func19, Tryd.ntmps19
    go_upto_region 6 with (first
      | (go_at_call 47; refine P.mono ?_; rintro e w2 ⟨rfl, hc1⟩)
      | (go_at_call 48; refine (A _).mono ?_; rintro e w3 ⟨rfl, hc2⟩))
    have HX := hid (heap_alloc_new w3 (.cells #[.bool sn, .int .u64 (zh : Int), .int .u64 (zl : Int)] 43 (0, 0)))
    have hc3 := (((hc1.trans (Chg.alloc _ _ _)).trans (Chg.alloc _ _ _)).trans hc2).trans (Chg.alloc [] w3 (.cells #[.bool sn, .int .u64 (zh : Int), .int .u64 (zl : Int)] 43 (0, 0)))
    clear hc1 hc2 P A
    generalize w3.alloc (.cells #[.bool sn, .int .u64 (zh : Int), .int .u64 (zl : Int)] 43 (0, 0)) = W3 at *
    obtain ⟨c0, c1, c2⟩ := three_cells HX.out
    cases hz : decide (sv = 0)
    · rw [hz] at D
      have hz' := of_decide_eq_false hz
      have hC := HF.out
      rw [if_neg hz'] at hC
      clear hz HF hz'
      cases sn
      · simp only [if_neg Bool.false_ne_true] at hC
        subst hC
        go_wp2_with (go_at_call 36; refine (D _).mono ?_; rintro e w5 ⟨rfl, hc5⟩; obtain ⟨x0, x1, x2⟩ := three_cells (hc5.heap HX.out (by simp)))
        go_returns
        exact ⟨rfl, hc3.trans hc5⟩
      · simp only [if_true] at hC
        subst hC
        go_wp2_with (go_at_call 36; refine (D _).mono ?_; rintro e w5 ⟨rfl, hc5⟩; obtain ⟨x0, x1, x2⟩ := three_cells (hc5.heap HX.out (by simp)))
        go_returns
        exact ⟨rfl, hc3.trans hc5⟩
    · rw [hz] at D
      have hz' := of_decide_eq_true hz
      have hC := HF.out
      rw [if_pos hz'] at hC
      subst hC
      clear hz HF hz'
      go_wp2_with (go_at_call 36; refine (D _).mono ?_; rintro e w5 ⟨rfl, hc5⟩)
      go_returns
      exact ⟨rfl, hc3.trans hc5⟩
  · have e0 : (codeS a b != 0) = true := by simp [hc]
    unfold cmpF
    rw [if_neg hc]
    unfold pn pv at P
    rw [if_neg hc, if_neg hc, if_neg hc, if_neg hc, num_zero] at P
    generalize codeS a b = c at *
    go_enter Tryd.func19, Tryd.ntmps19
    go_wp2_with (go_at_call 47; refine P.mono ?_; rintro e w2 ⟨rfl, hc1⟩)
    go_returns
    exact ⟨rfl, (hc1.trans (Chg.alloc _ _ _)).trans (Chg.alloc _ _ _)⟩

end Go.Proofs.YtmklkfogddppmaaDoor

/- Add, Sub, Compare and Zap of the reference of layer 4. -/
namespace Go.Proofs.YtmklkfogddppmaaDoor
open Go.RowKit Go.Shelf
set_option linter.unusedVariables false
set_option linter.unusedSimpArgs false

set_option maxHeartbeats 1000000 in
set_option maxRecDepth 100000 in
theorem rAdd_any (w : World) (va vb : Value) (a b : Bs) (hva : Reads w va a) (hvb : Reads w vb b) :
    Calls Tryd.prog 22 #[va, vb] w fun e w' => ∃ u, e = .returned (.tuple #[u, .int .i64 (addF a b false).2.1, .int .i64 (addF a b false).2.2]) ∧
      w'.ownsRow w.heap.size 5 1 u (addF a b false).1.length ((addF a b false).1.map eb) ∧ Chg [] w w' := by
  have P := two_any w va vb a b hva hvb
  obtain ⟨pa, ca, rfl⟩ := hva.shape (L := a.length) rfl
  by_cases hc : codeS a b = 0
  · obtain ⟨k1, k2, _, _⟩ := code_len a b hc
    unfold addF
    rw [if_pos hc]
    unfold pn pv at P
    rw [if_pos hc, if_pos hc, if_pos hc, if_pos hc, hc] at P
    have hx : rv a < 10 ^ 200 := Nat.lt_of_lt_of_le (rv_lt a) (Nat.pow_le_pow_right (by decide) (by decide))
    have hy : rv b < 10 ^ 200 := Nat.lt_of_lt_of_le (rv_lt b) (Nat.pow_le_pow_right (by decide) (by decide))
    have A := fun W u1 u2 h1 h2 => Sum_any W (rn a) (rn b) (rv a) (rv b) u1 u2 h1 h2 hx hy
    have hS : addS (rn a) (rv a) (rn b) (rv b) = sumN a b false := rfl
    rw [hS] at A
    have HA := hid A
    clear A hx hy hS
    generalize (sumN a b false) = s at *
    obtain ⟨sn, sv⟩ := s
    have F := fun W u h => result_any W sn sv u a.length h k1 k2
    have HF := hid F
    have hL : (finF (sn, sv) a.length).1.length = a.length := by simp [finF, finS, fldN, fld_length]
    rw [hL]
    show Calls _ _ _ _ fun e w' => ∃ u, e = .returned (.tuple #[u, .int .i64 (finC sn sv a.length), .int .i64 (finO sv a.length)]) ∧ w'.ownsRow w.heap.size 5 1 u a.length ((finS sn sv a.length).map eb) ∧ Chg [] w w'
    clear hL hva hvb hc F
    generalize a.length = N at *
    generalize rn a = an at *
    generalize rn b = bn at *
    generalize rv a = av at *
    generalize rv b = bv at *
    go_enter Tryd.func22, Tryd.ntmps22
    go_wp2_with (first
      | (go_at_call 42; refine P.mono ?_; rintro e w2 ⟨u1, u2, rfl, hd1, hd2, hc1⟩; have HD1 := hid hd1; have HD2 := hid hd2; obtain ⟨ua, uL, uc, rfl, -, -, -⟩ := hd1.shape; obtain ⟨ta, tL, tc, rfl, -, -, -⟩ := hd2.shape; clear hd1 hd2)
      | (go_at_call 50; refine (HA.out _ _ _ ((HD1.out.keep (Chg.alloc _ _ _)).keep (Chg.alloc _ _ _)) ((HD2.out.keep (Chg.alloc _ _ _)).keep (Chg.alloc _ _ _))).mono ?_; rintro e w3 ⟨u3, rfl, hd3, hc2⟩; have HD3 := hid hd3; obtain ⟨ra, rL, rc, rfl, -, -, -⟩ := hd3.shape; clear hd3)
      | (go_at_call 52; refine (HF.out _ _ HD3.out).mono ?_; rintro e w4 ⟨u4, rfl, hO, hc3⟩))
    go_returns
    have hc4 := ((hc1.trans (Chg.alloc _ _ _)).trans (Chg.alloc _ _ _)).trans hc2
    exact ⟨u4, rfl, own_base hO hc4.size, hc4.trans hc3⟩
  · have e0 : (codeS a b != 0) = true := by simp [hc]
    unfold addF
    rw [if_neg hc]
    unfold pn pv at P
    rw [if_neg hc, if_neg hc, if_neg hc, if_neg hc] at P
    generalize codeS a b = c at *
    clear hva hvb
    go_enter Tryd.func22, Tryd.ntmps22
    go_wp2_with (go_at_call 42; refine P.mono ?_; rintro e w2 ⟨u1, u2, rfl, hd1, hd2, hc1⟩; obtain ⟨ua, uL, uc, rfl, -, -, -⟩ := hd1.shape; obtain ⟨ta, tL, tc, rfl, -, -, -⟩ := hd2.shape; clear hd1 hd2)
    go_returns
    exact ⟨_, rfl, World.ownsRow_nil _ _ _ _, (hc1.trans (Chg.alloc _ _ _)).trans (Chg.alloc _ _ _)⟩

set_option maxHeartbeats 1000000 in
set_option maxRecDepth 100000 in
theorem rSub_any (w : World) (va vb : Value) (a b : Bs) (hva : Reads w va a) (hvb : Reads w vb b) :
    Calls Tryd.prog 24 #[va, vb] w fun e w' => ∃ u, e = .returned (.tuple #[u, .int .i64 (addF a b true).2.1, .int .i64 (addF a b true).2.2]) ∧
      w'.ownsRow w.heap.size 5 1 u (addF a b true).1.length ((addF a b true).1.map eb) ∧ Chg [] w w' := by
  have P := two_any w va vb a b hva hvb
  obtain ⟨pa, ca, rfl⟩ := hva.shape (L := a.length) rfl
  by_cases hc : codeS a b = 0
  · obtain ⟨k1, k2, _, _⟩ := code_len a b hc
    unfold addF
    rw [if_pos hc]
    unfold pn pv at P
    rw [if_pos hc, if_pos hc, if_pos hc, if_pos hc, hc] at P
    have hx : rv a < 10 ^ 200 := Nat.lt_of_lt_of_le (rv_lt a) (Nat.pow_le_pow_right (by decide) (by decide))
    have hy : rv b < 10 ^ 200 := Nat.lt_of_lt_of_le (rv_lt b) (Nat.pow_le_pow_right (by decide) (by decide))
    have A := fun W u1 u2 h1 h2 => Sum_any W (rn a) (!rn b) (rv a) (rv b) u1 u2 h1 h2 hx hy
    have hS : addS (rn a) (rv a) (!rn b) (rv b) = sumN a b true := rfl
    rw [hS] at A
    have HA := hid A
    clear A hx hy hS
    generalize (sumN a b true) = s at *
    obtain ⟨sn, sv⟩ := s
    have F := fun W u h => result_any W sn sv u a.length h k1 k2
    have HF := hid F
    have hL : (finF (sn, sv) a.length).1.length = a.length := by simp [finF, finS, fldN, fld_length]
    rw [hL]
    show Calls _ _ _ _ fun e w' => ∃ u, e = .returned (.tuple #[u, .int .i64 (finC sn sv a.length), .int .i64 (finO sv a.length)]) ∧ w'.ownsRow w.heap.size 5 1 u a.length ((finS sn sv a.length).map eb) ∧ Chg [] w w'
    clear hL hva hvb hc F
    generalize a.length = N at *
    generalize rn a = an at *
    generalize rn b = bn at *
    generalize rv a = av at *
    generalize rv b = bv at *
    go_enter Tryd.func24, Tryd.ntmps24
    go_wp2_with (first
      | (go_at_call 42; refine P.mono ?_; rintro e w2 ⟨u1, u2, rfl, hd1, hd2, hc1⟩; have HD1 := hid hd1; have HD2 := hid hd2; obtain ⟨ua, uL, uc, rfl, -, -, -⟩ := hd1.shape; obtain ⟨ta, tL, tc, rfl, -, -, -⟩ := hd2.shape; clear hd1 hd2)
      | (go_at_call 50; refine (HA.out _ _ _ ((HD1.out.keep (Chg.alloc _ _ _)).keep (Chg.alloc _ _ _)) ((HD2.out.keep (Chg.alloc _ _ _)).keep (Chg.alloc _ _ _))).mono ?_; rintro e w3 ⟨u3, rfl, hd3, hc2⟩; have HD3 := hid hd3; obtain ⟨ra, rL, rc, rfl, -, -, -⟩ := hd3.shape; clear hd3)
      | (go_at_call 52; refine (HF.out _ _ HD3.out).mono ?_; rintro e w4 ⟨u4, rfl, hO, hc3⟩))
    go_returns
    have hc4 := ((hc1.trans (Chg.alloc _ _ _)).trans (Chg.alloc _ _ _)).trans hc2
    exact ⟨u4, rfl, own_base hO hc4.size, hc4.trans hc3⟩
  · have e0 : (codeS a b != 0) = true := by simp [hc]
    unfold addF
    rw [if_neg hc]
    unfold pn pv at P
    rw [if_neg hc, if_neg hc, if_neg hc, if_neg hc] at P
    generalize codeS a b = c at *
    clear hva hvb
    go_enter Tryd.func24, Tryd.ntmps24
    go_wp2_with (go_at_call 42; refine P.mono ?_; rintro e w2 ⟨u1, u2, rfl, hd1, hd2, hc1⟩; obtain ⟨ua, uL, uc, rfl, -, -, -⟩ := hd1.shape; obtain ⟨ta, tL, tc, rfl, -, -, -⟩ := hd2.shape; clear hd1 hd2)
    go_returns
    exact ⟨_, rfl, World.ownsRow_nil _ _ _ _, (hc1.trans (Chg.alloc _ _ _)).trans (Chg.alloc _ _ _)⟩

set_option maxHeartbeats 1000000 in
set_option maxRecDepth 100000 in
theorem rCompare_any (w : World) (va vb : Value) (a b : Bs) (hva : Reads w va a) (hvb : Reads w vb b) :
    Calls Tryd.prog 20 #[va, vb] w fun e w' => e = .returned (.tuple #[.int .i64 (cmpF a b).1, .int .i64 (cmpF a b).2]) ∧ Chg [] w w' := by
  have P := two_any w va vb a b hva hvb
  by_cases hc : codeS a b = 0
  · unfold cmpF
    rw [if_pos hc]
    unfold pn pv at P
    rw [if_pos hc, if_pos hc, if_pos hc, if_pos hc, hc] at P
    have hx : rv a < 10 ^ 200 := Nat.lt_of_lt_of_le (rv_lt a) (Nat.pow_le_pow_right (by decide) (by decide))
    have hy : rv b < 10 ^ 200 := Nat.lt_of_lt_of_le (rv_lt b) (Nat.pow_le_pow_right (by decide) (by decide))
    have A := fun W u1 u2 h1 h2 => Sum_any W (rn a) (!rn b) (rv a) (rv b) u1 u2 h1 h2 hx hy
    have hS : addS (rn a) (rv a) (!rn b) (rv b) = sumN a b true := rfl
    rw [hS] at A
    have HA := hid A
    clear A hx hy hS
    generalize (sumN a b true) = s at *
    obtain ⟨sn, sv⟩ := s
    have HF := hid (fun W u h => Code_any W sn sv u h)
    show Calls _ _ _ _ fun e w' => e = .returned (.tuple #[.int .i64 (codeN sn sv), .int .i64 0]) ∧ Chg [] w w'
    clear hva hvb hc
    generalize rn a = an at *
    generalize rn b = bn at *
    generalize rv a = av at *
    generalize rv b = bv at *
    go_enter Tryd.func20, Tryd.ntmps20
    go_wp2_with (first
      | (go_at_call 42; refine P.mono ?_; rintro e w2 ⟨u1, u2, rfl, hd1, hd2, hc1⟩; have HD1 := hid hd1; have HD2 := hid hd2; obtain ⟨ua, uL, uc, rfl, -, -, -⟩ := hd1.shape; obtain ⟨ta, tL, tc, rfl, -, -, -⟩ := hd2.shape; clear hd1 hd2)
      | (go_at_call 50; refine (HA.out _ _ _ ((HD1.out.keep (Chg.alloc _ _ _)).keep (Chg.alloc _ _ _)) ((HD2.out.keep (Chg.alloc _ _ _)).keep (Chg.alloc _ _ _))).mono ?_; rintro e w3 ⟨u3, rfl, hd3, hc2⟩; have HD3 := hid hd3; obtain ⟨ra, rL, rc, rfl, -, -, -⟩ := hd3.shape; clear hd3)
      | (go_at_call 49; refine (HF.out _ _ HD3.out).mono ?_; rintro e w4 ⟨rfl, hc3⟩))
    go_returns
    exact ⟨rfl, (((hc1.trans (Chg.alloc _ _ _)).trans (Chg.alloc _ _ _)).trans hc2).trans hc3⟩
  · have e0 : (codeS a b != 0) = true := by simp [hc]
    unfold cmpF
    rw [if_neg hc]
    unfold pn pv at P
    rw [if_neg hc, if_neg hc, if_neg hc, if_neg hc] at P
    generalize codeS a b = c at *
    clear hva hvb
    go_enter Tryd.func20, Tryd.ntmps20
    go_wp2_with (go_at_call 42; refine P.mono ?_; rintro e w2 ⟨u1, u2, rfl, hd1, hd2, hc1⟩; obtain ⟨ua, uL, uc, rfl, -, -, -⟩ := hd1.shape; obtain ⟨ta, tL, tc, rfl, -, -, -⟩ := hd2.shape; clear hd1 hd2)
    go_returns
    exact ⟨rfl, (hc1.trans (Chg.alloc _ _ _)).trans (Chg.alloc _ _ _)⟩

set_option maxHeartbeats 1000000 in
set_option maxRecDepth 100000 in
theorem rZap_any (w : World) (n : Int) (vb : Value) (b : Bs) (hvb : Reads w vb b) :
    Calls Tryd.prog 26 #[.int .i64 n, vb] w fun e w' => ∃ u, e = .returned (.tuple #[u, .int .i64 (zapF n b).2.1, .int .i64 (zapF n b).2.2]) ∧
      w'.ownsRow w.heap.size 5 1 u (zapF n b).1.length ((zapF n b).1.map eb) ∧ Chg [] w w' := by
  have D := Of_any w vb b hvb
  obtain ⟨pb, cb, rfl⟩ := hvb.shape (L := b.length) rfl
  unfold zapF
  clear hvb
  by_cases hs : (okSize n && okSize b.length) = true
  · obtain ⟨h1, h2⟩ := Bool.and_eq_true_iff.1 hs
    rw [if_pos hs]
    cases hf : fok b
    · rw [hf] at D
      clear hs
      go_enter Tryd.func26, Tryd.ntmps26
      go_wp2_with (first | (go_at_call 55; refine (r4size_any _ _).mono ?_; rintro e w2 ⟨rfl, rfl⟩; first | rw [h1] | rw [h2]) | (go_at_call 56; refine D.mono ?_; rintro e w2 ⟨u1, rfl, hd1, hc1⟩; obtain ⟨ua, uL, uc, rfl, -, -, -⟩ := hd1.shape; clear hd1))
      go_returns
      exact ⟨_, rfl, World.ownsRow_nil _ _ _ _, hc1.trans (Chg.alloc _ _ _)⟩
    · rw [hf] at D
      rw [if_pos rfl]
      obtain ⟨m, rfl, k1, k2⟩ := ok_nat h1
      have HF := hid (fun W u h => result_any W (rn b) (rv b) u m h k1 k2)
      have hL : (finF (rn b, rv b) ((m : Int)).toNat).1.length = m := by simp [finF, finS, fldN, fld_length]
      rw [hL]
      show Calls _ _ _ _ fun e w' => ∃ u, e = .returned (.tuple #[u, .int .i64 (finC (rn b) (rv b) m), .int .i64 (finO (rv b) m)]) ∧ w'.ownsRow w.heap.size 5 1 u m ((finS (rn b) (rv b) m).map eb) ∧ Chg [] w w'
      clear hs hL
      go_enter Tryd.func26, Tryd.ntmps26
      go_wp2_with (first | (go_at_call 55; refine (r4size_any _ _).mono ?_; rintro e w2 ⟨rfl, rfl⟩; first | rw [h1] | rw [h2]) | (go_at_call 56; refine D.mono ?_; rintro e w2 ⟨u1, rfl, hd1, hc1⟩; have HD1 := hid hd1; obtain ⟨ua, uL, uc, rfl, -, -, -⟩ := hd1.shape; clear hd1) | (go_at_call 52; refine (HF.out _ _ (HD1.out.keep (Chg.alloc _ _ _))).mono ?_; rintro e w4 ⟨u4, rfl, hO, hc3⟩))
      go_returns
      have hc4 := hc1.trans (Chg.alloc [] w2 (.cells #[.bool (rn b), .slice ua uL uc] 54))
      exact ⟨u4, rfl, own_base hO hc4.size, hc4.trans hc3⟩
  · rw [if_neg hs]
    cases h1 : okSize n
    · clear hs
      go_enter Tryd.func26, Tryd.ntmps26
      go_wp2_with (go_at_call 55; refine (r4size_any _ _).mono ?_; rintro e w2 ⟨rfl, rfl⟩; rw [h1])
      go_returns
      exact ⟨_, rfl, World.ownsRow_nil _ _ _ _, Chg.refl _ _⟩
    · have h2 : okSize b.length = false := by rw [h1] at hs; simpa using hs
      clear hs
      go_enter Tryd.func26, Tryd.ntmps26
      go_wp2_with (go_at_call 55; refine (r4size_any _ _).mono ?_; rintro e w2 ⟨rfl, rfl⟩; first | rw [h1] | rw [h2])
      go_returns
      exact ⟨_, rfl, World.ownsRow_nil _ _ _ _, Chg.refl _ _⟩

end Go.Proofs.YtmklkfogddppmaaDoor

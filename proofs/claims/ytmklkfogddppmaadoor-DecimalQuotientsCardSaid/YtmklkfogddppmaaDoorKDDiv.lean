/- Multiply of jobshop/decimal. -/
import Derived.Test.YtmklkfogddppmaaDoorKDOps
import Derived.Test.YtmklkfogddppmaaDoorKDZap
import Derived.Test.YtmklkfogddppmaaDoorKApp4
namespace Go.Proofs.YtmklkfogddppmaaDoor
open Go.RowKit Go.Shelf
set_option linter.unusedVariables false
set_option linter.unusedSimpArgs false

theorem rv_lt_len (b : Bs) (h : 1 ≤ b.length) : rv b < 10 ^ (2 * b.length - 1) := by
  unfold rv
  by_cases hf : fok b = true
  · rw [if_pos hf]
    have hl := (fok_parts b hf).2.1
    have := val_lt _ hl
    rw [List.length_tail, nibr_length] at this
    exact this
  · rw [if_neg hf]; exact Nat.pow_pos (by decide)
/-- a field whose first m bytes are zero -/
theorem rv_lead (b : Bs) (m : Nat) (hm : m < b.length) (hz : ∀ i, i < m → bN b i = 0) : rv b < 10 ^ (2 * (b.length - m) - 1) := by
  unfold rv
  by_cases hf : fok b = true
  · rw [if_pos hf]
    have hl := (fok_parts b hf).2.1
    unfold fv
    have h0 : ∀ i, 2 * (b.length - m) - 1 ≤ i → (nibr b).tail.getD i 0 = 0 := by
      intro i hi
      rcases Nat.lt_or_ge (i + 1) (2 * b.length) with h | h
      · have e : (nibr b).tail.getD i 0 = (nibr b).getD (i + 1) 0 := by
          rw [List.getD_eq_getElem?_getD, List.getD_eq_getElem?_getD, List.getElem?_tail]
        rw [e]
        obtain ⟨j, hj⟩ : ∃ j, (i + 1) / 2 = j := ⟨_, rfl⟩
        have hn := nibr_get b j (by omega)
        rw [hz (b.length - 1 - j) (by omega)] at hn
        rcases (by omega : i + 1 = 2 * j ∨ i + 1 = 2 * j + 1) with h2 | h2
        · rw [h2]; exact hn.1
        · rw [h2]; exact hn.2
      · rw [List.getD_eq_getElem?_getD, List.getElem?_eq_none (by rw [List.length_tail, nibr_length]; omega)]; rfl
    rw [← val_take _ _ h0]
    refine Nat.lt_of_lt_of_le (val_lt _ fun q hq => hl q (List.mem_of_mem_take hq)) ?_
    refine Nat.pow_le_pow_right (by decide) ?_
    rw [List.length_take]; omega
  · rw [if_neg hf]; exact Nat.pow_pos (by decide)

theorem code_ops (a b : Bs) (h : codeM a b = 0) : codeS a b = 0 ∧ b.length ≤ 8 ∧ b.length < a.length := by
  unfold codeM at h
  by_cases ho : okOps a b = true
  · rw [if_pos ho] at h
    unfold okOps at ho
    simp only [Bool.and_eq_true, decide_eq_true_eq] at ho
    exact ⟨h, ho.1.2, ho.2⟩
  · rw [if_neg ho] at h; cases h

/-- P4.3 -/
def mulF (a b : Bs) : Bs × Int := if codeM a b = 0 then (if ∀ i, i < b.length → bN a i = 0 then (fldN a.length (rn a != rn b) (rv a * rv b), 0) else ([], 7)) else ([], codeM a b)

theorem mul_fits (a b : Bs) (h : codeM a b = 0) (hz : ∀ i, i < b.length → bN a i = 0) : rv a * rv b < 10 ^ 30 ∧ rv b < 10 ^ 15 := by
  obtain ⟨h1, h2, h3⟩ := code_ops a b h
  obtain ⟨l1, l2, l3, l4⟩ := code_len a b h1
  have p1 := rv_lead a b.length h3 hz
  have p2 := rv_lt_len b l3
  constructor
  · have p3 : rv a * rv b < 10 ^ (2 * (a.length - b.length) - 1) * 10 ^ (2 * b.length - 1) := Nat.mul_lt_mul'' p1 p2
    rw [← Nat.pow_add] at p3
    exact Nat.lt_of_lt_of_le p3 (Nat.pow_le_pow_right (by decide) (by omega))
  · exact Nat.lt_of_lt_of_le p2 (Nat.pow_le_pow_right (by decide) (by omega))

set_option maxHeartbeats 1000000 in
theorem Multiply_bad (w : World) (va vb : Value) (a b : Bs) (hva : Reads w va a) (hvb : Reads w vb b) (hc : codeM a b ≠ 0) :
    Calls Tryd.prog 17 #[va, vb] w fun e w' => e = .returned (.tuple #[.slice none 0 0, .int .i64 (codeM a b)]) ∧ Chg [] w w' := by
  have P := ops_any w va vb a b hva hvb
  have e0 : (codeM a b != 0) = true := by simp [hc]
  unfold pn pv at P
  rw [if_neg hc, if_neg hc, if_neg hc, if_neg hc, num_zero] at P
  generalize codeM a b = c at *
  go_enter Tryd.func17, Tryd.ntmps17
  go_wp2_with (go_at_call 35; refine P.mono ?_; rintro e w2 ⟨rfl, hc1⟩)
  go_returns
  exact ⟨rfl, (hc1.trans (Chg.alloc _ _ _)).trans (Chg.alloc _ _ _)⟩

set_option maxHeartbeats 1000000 in
theorem Multiply_good (w : World) (va vb : Value) (a b : Bs) (hva : Reads w va a) (hvb : Reads w vb b) (ht : Tab w) (hc : codeM a b = 0) :
    Calls Tryd.prog 17 #[va, vb] w fun e w' => ∃ u, e = .returned (.tuple #[u, .int .i64 (mulF a b).2]) ∧
      w'.ownsRow w.heap.size 5 1 u (mulF a b).1.length ((mulF a b).1.map eb) ∧ Chg [] w w' := by
  have P := ops_any w va vb a b hva hvb
  obtain ⟨pb, cb, rfl⟩ := hvb.shape (L := b.length) rfl
  unfold pn pv at P
  rw [if_pos hc, if_pos hc, if_pos hc, if_pos hc, hc] at P
  obtain ⟨k0, k1, k2⟩ := code_ops a b hc
  obtain ⟨l1, l2, l3, l4⟩ := code_len a b k0
  have hMul : mulF a b = if ∀ i, i < b.length → bN a i = 0 then (fldN a.length (rn a != rn b) (rv a * rv b), 0) else ([], 7) := by unfold mulF; rw [if_pos hc]
  have hfit := mul_fits a b hc
  obtain ⟨R, hR⟩ : ∃ R, mulF a b = R := ⟨_, rfl⟩
  rw [hR] at hMul ⊢
  clear hR
  obtain ⟨xh, xl, -, p1, p2, q2⟩ := num_parts (rn a) (rv a) (by have := rv_lt a; omega)
  have hb15 : rv b < 10 ^ 15 := Nat.lt_of_lt_of_le (rv_lt_len b l3) (Nat.pow_le_pow_right (by decide) (by omega))
  have q4 : num (rn b) (rv b) = .agg #[.bool (rn b), .int .u64 ((0 : Nat) : Int), .int .u64 (rv b : Int)] := num_of (rn b) 0 (rv b) (rv b) (by omega) (by omega)
  rw [q2, q4] at P
  rcases hva.parts (L := a.length) rfl with ⟨_, h0, _⟩ | ⟨bb, off, cap, rfl, _, hm4, hm5, HCL⟩
  · omega
  have HT := hid ht
  generalize hL : a.length = L at *
  generalize hM : b.length = M at *
  go_enter Tryd.func17, Tryd.ntmps17
  go_upto_region 5 with (go_at_call 35; refine P.mono ?_; rintro e w2 ⟨rfl, hc1⟩)
  have HX := hid (al_old (o := .cells #[.bool (rn b), .int .u64 0, .int .u64 (rv b : Int)] 43 (0, 0)) (heap_alloc_new w2 (.cells #[.bool (rn a), .int .u64 (xh : Int), .int .u64 (xl : Int)] 43 (0, 0))))
  have HY := hid (al_new (w := w2.alloc (.cells #[.bool (rn a), .int .u64 (xh : Int), .int .u64 (xl : Int)] 43 (0, 0))) (o := .cells #[.bool (rn b), .int .u64 0, .int .u64 (rv b : Int)] 43 (0, 0)) (k := w2.heap.size + 1) (by simp))
  have hc2 := (hc1.trans (Chg.alloc [] w2 (.cells #[.bool (rn a), .int .u64 (xh : Int), .int .u64 (xl : Int)] 43 (0, 0)))).trans (Chg.alloc [] _ (.cells #[.bool (rn b), .int .u64 0, .int .u64 (rv b : Int)] 43 (0, 0)))
  clear hc1 hva hvb P
  generalize (w2.alloc (.cells #[.bool (rn a), .int .u64 (xh : Int), .int .u64 (xl : Int)] 43 (0, 0))).alloc (.cells #[.bool (rn b), .int .u64 0, .int .u64 (rv b : Int)] 43 (0, 0)) = W1 at *
  have HB : Hid (∀ i, i < M → W1.cell? ⟨bb, off + i, none⟩ = some (.int .u8 (bN a i : Int))) := fun i hi => hc2.cell (HCL.out i (by omega)) (by simp)
  have T := fun W (hz : ∀ i, i < M → bN a i = 0) => times_num (rn a) (rv a) (rv b) W (by have := rv_lt a; omega) (by omega) (by have := (hfit hz).1; omega)
  rw [q2] at T
  have hTT := hid T
  have HFIT := hid hfit
  have HM := hid hMul
  clear q4 hfit hMul T p2 q2
  generalize hra : rv a = av at *
  generalize hrb : rv b = bv at *
  generalize rn a = an at *
  generalize rn b = bn at *
  clear hra hrb
  go_loopw [27] (fun i wr => ∃ k : Nat, k ≤ M ∧ i = .int .i64 k ∧ Hid (∀ j, j < k → bN a j = 0) ∧ wr = W1) (fun i _ => M - (intOf i).toNat)
  case atStart => exact ⟨0, by omega, rfl, hid (fun j hj => by omega), rfl⟩
  case round =>
    obtain ⟨k, hk, rfl, hzk, rfl⟩ := hrel
    by_cases hkM : k < M
    · have hkI : (k : Int) < (M : Int) := by omega
      have cx := HB.out k hkM
      have hx := bN_lt a k
      obtain ⟨x, hxx⟩ : ∃ x, bN a k = x := ⟨_, rfl⟩
      rw [hxx] at cx hx
      by_cases h0 : x = 0
      · have e0 : ((x : Int) != 0) = false := by simp [h0]
        have HZ : Hid (∀ j, j < k + 1 → bN a j = 0) := fun j hj => by
          rcases (by omega : j < k ∨ j = k) with h | h
          · exact hzk.out j h
          · rw [h, hxx, h0]
        clear hxx
        go_wp2_with (fail)
        go_roundw
        case measure => first | omega | (simp [intOf]; omega)
        case rel => exact ⟨k + 1, by omega, by go_num, HZ, by first | rfl | trivial⟩
      · have e0 : ((x : Int) != 0) = true := by simp [h0]
        have hno : ¬ ∀ i, i < M → bN a i = 0 := fun h => h0 (by rw [← hxx]; exact h k hkM)
        have hM2 := HM.out
        rw [if_neg hno] at hM2
        subst hM2
        clear hxx HM
        go_wp2_with (fail)
        go_returns
        exact ⟨_, rfl, World.ownsRow_nil _ _ _ _, hc2⟩
    · obtain rfl : k = M := by omega
      have hkI : ¬ (k : Int) < (k : Int) := by omega
      have hM2 := HM.out
      rw [if_pos hzk.out] at hM2
      clear HM
      have T := fun W => hTT.out W hzk.out
      obtain ⟨f1, f2⟩ := HFIT.out hzk.out
      obtain ⟨v, hv⟩ : ∃ v, av * bv = v := ⟨_, rfl⟩
      rw [hv] at T f1 hM2
      obtain ⟨zh, zl, -, -, -, q6⟩ := num_parts an v (by omega)
      have D := fun W hW => ddigits_num an v W (by omega) hW
      rw [q6] at T D
      have hlen : (Lib.decDigits v).length ≤ 1000 := Nat.le_trans ((dec_len _ 30 (by omega)).2 f1) (by omega)
      have F := fun W => write_dec (an != bn) v L W l1 l2 hlen
      have hL : (fldN L (an != bn) v).length = L := by simp [fldN, fld_length]
      have HR := hid hM2
      clear hM2 hTT HFIT HB hzk hlen
      obtain ⟨c0, c1, c2⟩ := three_cells HX.out
      obtain ⟨y0, y1, y2⟩ := three_cells HY.out
      go_upto_region 11 with (go_at_call 45; refine (T _).mono ?_; rintro e w3 ⟨⟨ok, rfl⟩, hc3⟩)
      have HZ := hid (heap_alloc_new w3 (.cells #[.bool an, .int .u64 (zh : Int), .int .u64 (zl : Int)] 43 (0, 0)))
      have HX3 := hid (al_old (o := .cells #[.bool an, .int .u64 (zh : Int), .int .u64 (zl : Int)] 43 (0, 0)) (hc3.heap HX.out (by simp)))
      have HY3 := hid (al_old (o := .cells #[.bool an, .int .u64 (zh : Int), .int .u64 (zl : Int)] 43 (0, 0)) (hc3.heap HY.out (by simp)))
      have hc4 := (hc2.trans hc3).trans (Chg.alloc [] w3 (.cells #[.bool an, .int .u64 (zh : Int), .int .u64 (zl : Int)] 43 (0, 0)))
      clear hc2 hc3 HX HY c0 c1 c2 y0 y1 y2 T
      generalize w3.alloc (.cells #[.bool an, .int .u64 (zh : Int), .int .u64 (zl : Int)] 43 (0, 0)) = W3 at *
      obtain ⟨c0, c1, c2⟩ := three_cells HX3.out
      obtain ⟨y0, y1, y2⟩ := three_cells HY3.out
      obtain ⟨z0, z1, z2⟩ := three_cells HZ.out
      have hT3 := hid (HT.out.keep hc4)
      clear c1 c2 y1 y2
      have HC4 := hid hc4
      go_region_held3 (fun w' => w'.cell? ⟨w2.heap.size, 0, none⟩ = some (.bool an) ∧ w'.cell? ⟨w2.heap.size + 1, 0, none⟩ = some (.bool bn) ∧ w'.cell? ⟨w3.heap.size, 0, none⟩ = some (.bool an) ∧ w'.cell? ⟨w3.heap.size, 1, none⟩ = some (.int .u64 (zh : Int)) ∧ w'.cell? ⟨w3.heap.size, 2, none⟩ = some (.int .u64 (zl : Int)))
        (first | go_keep | (go_split_ands; refine ⟨?_, ?_, ?_, ?_, ?_⟩ <;> exact hc'.cell (by assumption) (by simp)))
        (first | (go_at_call 39; refine (D _ hT3.out.drew).mono ?_; rintro e w5 ⟨rfl, hc'⟩; have HC6 := hid ((HC4.out.trans (Chg.drew [] W3)).trans hc')) | (go_at_call 38; refine (F _).mono ?_; rintro e w6 ⟨u, rfl, hO, hc'⟩; have HO := hid hO; have HC7 := hid hc'))
      go_wp2_with (fail)
      go_returns
      have hR := HR.out
      subst hR
      exact ⟨u, by simp [Act.put], by rw [hL]; exact own_base HO.out HC6.out.size, HC6.out.trans HC7.out⟩

end Go.Proofs.YtmklkfogddppmaaDoor

/- Divide of jobshop/decimal. -/
namespace Go.Proofs.YtmklkfogddppmaaDoor
open Go.RowKit Go.Shelf
set_option linter.unusedVariables false
set_option linter.unusedSimpArgs false

/-- P4.4 -/
def divF (a b : Bs) : Bs × Int := if codeM a b = 0 then (if rv b = 0 then ([], 11) else if 10 ^ (2 * (a.length - b.length) - 1) ≤ rv a / rv b then ([], 11) else (fldN (a.length - b.length) (rn a != rn b) (rv a / rv b) ++ fldN b.length (rn a) (rv a % rv b), 0)) else ([], codeM a b)

set_option maxHeartbeats 1000000 in
theorem Divide_bad (w : World) (va vb : Value) (a b : Bs) (hva : Reads w va a) (hvb : Reads w vb b) (hc : codeM a b ≠ 0) :
    Calls Tryd.prog 13 #[va, vb] w fun e w' => e = .returned (.tuple #[.slice none 0 0, .int .i64 (codeM a b)]) ∧ Chg [] w w' := by
  have P := ops_any w va vb a b hva hvb
  have e0 : (codeM a b != 0) = true := by simp [hc]
  unfold pn pv at P
  rw [if_neg hc, if_neg hc, if_neg hc, if_neg hc, num_zero] at P
  generalize codeM a b = c at *
  go_enter Tryd.func13, Tryd.ntmps13
  go_wp2_with (go_at_call 35; refine P.mono ?_; rintro e w2 ⟨rfl, hc1⟩)
  go_returns
  exact ⟨rfl, (hc1.trans (Chg.alloc _ _ _)).trans (Chg.alloc _ _ _)⟩

set_option maxHeartbeats 1000000 in
theorem Divide_zero (w : World) (va vb : Value) (a b : Bs) (hva : Reads w va a) (hvb : Reads w vb b) (hc : codeM a b = 0) (hz : rv b = 0) :
    Calls Tryd.prog 13 #[va, vb] w fun e w' => e = .returned (.tuple #[.slice none 0 0, .int .i64 11]) ∧ Chg [] w w' := by
  have P := ops_any w va vb a b hva hvb
  unfold pn pv at P
  rw [if_pos hc, if_pos hc, if_pos hc, if_pos hc, hc, hz] at P
  obtain ⟨xh, xl, -, -, -, q2⟩ := num_parts (rn a) (rv a) (by have := rv_lt a; omega)
  have Z := fun W => zero_num (rn b) 0 W (by omega)
  have q4 : num (rn b) 0 = .agg #[.bool (rn b), .int .u64 0, .int .u64 0] := rfl
  rw [q2, q4] at P
  rw [q4] at Z
  rw [show decide (0 = 0) = true from rfl] at Z
  clear q2 q4 hva hvb hc hz
  go_enter Tryd.func13, Tryd.ntmps13
  go_wp2_with (first
    | (go_at_call 35; refine P.mono ?_; rintro e w2 ⟨rfl, hc1⟩)
    | (go_at_call 36; refine (Z _).mono ?_; rintro e w3 ⟨rfl, hc2⟩))
  go_returns
  exact ⟨rfl, ((hc1.trans (Chg.alloc _ _ _)).trans (Chg.alloc _ _ _)).trans hc2⟩

set_option maxHeartbeats 1000000 in
theorem Divide_good (w : World) (va vb : Value) (a b : Bs) (hva : Reads w va a) (hvb : Reads w vb b) (ht : Tab w) (hc : codeM a b = 0) (hz : rv b ≠ 0) :
    Calls Tryd.prog 13 #[va, vb] w fun e w' => ∃ u, e = .returned (.tuple #[u, .int .i64 (divF a b).2]) ∧
      w'.ownsRow w.heap.size 5 1 u (divF a b).1.length ((divF a b).1.map eb) ∧ Chg [] w w' := by
  have P := ops_any w va vb a b hva hvb
  obtain ⟨pa, ca, rfl⟩ := hva.shape (L := a.length) rfl
  obtain ⟨pb, cb, rfl⟩ := hvb.shape (L := b.length) rfl
  unfold pn pv at P
  rw [if_pos hc, if_pos hc, if_pos hc, if_pos hc, hc] at P
  obtain ⟨k0, k1, k2⟩ := code_ops a b hc
  obtain ⟨l1, l2, l3, l4⟩ := code_len a b k0
  have hD : divF a b = if 10 ^ (2 * (a.length - b.length) - 1) ≤ rv a / rv b then ([], 11) else (fldN (a.length - b.length) (rn a != rn b) (rv a / rv b) ++ fldN b.length (rn a) (rv a % rv b), 0) := by unfold divF; rw [if_pos hc, if_neg hz]
  obtain ⟨R, hR⟩ : ∃ R, divF a b = R := ⟨_, rfl⟩
  rw [hR] at hD ⊢
  clear hR
  have ha31 := rv_lt a
  obtain ⟨xh, xl, -, p1, p2, q2⟩ := num_parts (rn a) (rv a) (by omega)
  have hb15 : rv b < 10 ^ 15 := Nat.lt_of_lt_of_le (rv_lt_len b l3) (Nat.pow_le_pow_right (by decide) (by omega))
  have q4 : num (rn b) (rv b) = .agg #[.bool (rn b), .int .u64 ((0 : Nat) : Int), .int .u64 (rv b : Int)] := num_of (rn b) 0 (rv b) (rv b) (by omega) (by omega)
  have Z := fun W => zero_num (rn b) (rv b) W (by omega)
  rw [decide_eq_false hz, q4] at Z
  rw [q2, q4] at P
  have T := fun W => over_num (rn a) (rv a) (rv b) W (by omega) (by omega) (by omega)
  have hq : rv a / rv b ≤ rv a := Nat.div_le_self _ _
  have hr : rv a % rv b < rv b := Nat.mod_lt _ (by omega)
  obtain ⟨zh, zl, -, -, -, q6⟩ := num_parts (rn a) (rv a / rv b) (by omega)
  have D := fun W hW => ddigits_num (rn a) (rv a / rv b) W (by omega) hW
  rw [q2, q6] at T
  rw [q6] at D
  have hL1 : (Lib.decDigits (rv a / rv b)).length ≤ 1000 := Nat.le_trans ((dec_len _ 31 (by omega)).2 (by omega)) (by omega)
  have hL2 : (Lib.decDigits (rv a % rv b)).length ≤ 1000 := Nat.le_trans ((dec_len _ 31 (by omega)).2 (by omega)) (by omega)
  have F1 := fun W => write_dec (rn a != rn b) (rv a / rv b) (a.length - b.length) W (by omega) (by omega) hL1
  have F2 := fun W => write_dec (rn a) (rv a % rv b) b.length W (by omega) (by omega) hL2
  have G := fun W hW => FormatUint_any (rv a % rv b) W (by omega) hW
  have HT := hid ht
  have HD := hid hD
  clear q2 q4 q6 p1 p2 hva hvb ht hD hL1 hL2 hr hq ha31 hb15 hc k0 hz
  have hsub : IntKind.i64.wrap ((a.length : Int) - (b.length : Int)) = ((a.length - b.length : Nat) : Int) := by rw [IntWalk.i64_in _ (by omega)]; omega
  generalize a.length = L at *
  generalize b.length = M at *
  generalize rv a / rv b = q at *
  generalize rv a % rv b = r at *
  generalize rv a = av at *
  generalize rv b = bv at *
  generalize rn a = an at *
  generalize rn b = bn at *
  go_enter Tryd.func13, Tryd.ntmps13
  go_upto_region 4 with (go_at_call 35; refine P.mono ?_; rintro e w2 ⟨rfl, hc1⟩)
  have HX := hid (al_old (o := .cells #[.bool bn, .int .u64 0, .int .u64 (bv : Int)] 43 (0, 0)) (heap_alloc_new w2 (.cells #[.bool an, .int .u64 (xh : Int), .int .u64 (xl : Int)] 43 (0, 0))))
  have HY := hid (al_new (w := w2.alloc (.cells #[.bool an, .int .u64 (xh : Int), .int .u64 (xl : Int)] 43 (0, 0))) (o := .cells #[.bool bn, .int .u64 0, .int .u64 (bv : Int)] 43 (0, 0)) (k := w2.heap.size + 1) (by simp))
  have hc2 := (hc1.trans (Chg.alloc [] w2 (.cells #[.bool an, .int .u64 (xh : Int), .int .u64 (xl : Int)] 43 (0, 0)))).trans (Chg.alloc [] _ (.cells #[.bool bn, .int .u64 0, .int .u64 (bv : Int)] 43 (0, 0)))
  clear hc1 P
  generalize (w2.alloc (.cells #[.bool an, .int .u64 (xh : Int), .int .u64 (xl : Int)] 43 (0, 0))).alloc (.cells #[.bool bn, .int .u64 0, .int .u64 (bv : Int)] 43 (0, 0)) = W1 at *
  obtain ⟨y0, y1, y2⟩ := three_cells HY.out
  go_upto_region 6 with (go_at_call 36; refine (Z _).mono ?_; rintro e w3 ⟨rfl, hc3⟩)
  have HX3 := hid (hc3.heap HX.out (by simp))
  have HY3 := hid (hc3.heap HY.out (by simp))
  have hc4 := hc2.trans hc3
  clear HX HY y0 y1 y2 hc2 hc3 Z
  obtain ⟨c0, c1, c2⟩ := three_cells HX3.out
  obtain ⟨y0, y1, y2⟩ := three_cells HY3.out
  go_upto_region 7 with (go_at_call 37; refine (T _).mono ?_; rintro e w4 ⟨rfl, hc5⟩)
  have HZ := hid (heap_alloc_new w4 (.cells #[.bool an, .int .u64 (zh : Int), .int .u64 (zl : Int)] 43 (0, 0)))
  have HX4 := hid (al_old (o := .cells #[.bool an, .int .u64 (zh : Int), .int .u64 (zl : Int)] 43 (0, 0)) (hc5.heap HX3.out (by simp)))
  have HY4 := hid (al_old (o := .cells #[.bool an, .int .u64 (zh : Int), .int .u64 (zl : Int)] 43 (0, 0)) (hc5.heap HY3.out (by simp)))
  have hc6 := (hc4.trans hc5).trans (Chg.alloc [] w4 (.cells #[.bool an, .int .u64 (zh : Int), .int .u64 (zl : Int)] 43 (0, 0)))
  clear hc4 hc5 HX3 HY3 c0 c1 c2 y0 y1 y2 T
  generalize w4.alloc (.cells #[.bool an, .int .u64 (zh : Int), .int .u64 (zl : Int)] 43 (0, 0)) = W3 at *
  obtain ⟨c0, c1, c2⟩ := three_cells HX4.out
  obtain ⟨y0, y1, y2⟩ := three_cells HY4.out
  obtain ⟨z0, z1, z2⟩ := three_cells HZ.out
  have hT3 := hid (HT.out.keep hc6)
  have HC6 := hid hc6
  clear c1 c2 y1 y2
  go_region_held3 (fun w' => w'.cell? ⟨w2.heap.size, 0, none⟩ = some (.bool an) ∧ w'.cell? ⟨w2.heap.size + 1, 0, none⟩ = some (.bool bn) ∧ w'.cell? ⟨w4.heap.size, 0, none⟩ = some (.bool an) ∧ w'.cell? ⟨w4.heap.size, 1, none⟩ = some (.int .u64 (zh : Int)) ∧ w'.cell? ⟨w4.heap.size, 2, none⟩ = some (.int .u64 (zl : Int)))
    (first | go_keep | (go_split_ands; refine ⟨?_, ?_, ?_, ?_, ?_⟩ <;> exact hc'.cell (by assumption) (by simp)))
    (first | (go_at_call 39; refine (D _ hT3.out.drew).mono ?_; rintro e w5 ⟨rfl, hc'⟩; have HC7 := hid ((HC6.out.trans (Chg.drew [] W3)).trans hc'); have HX5 := hid (hc'.heap (show W3.drew.heap[w2.heap.size]? = _ from HX4.out) (by simp))) | (go_at_call 38; refine (F1 _).mono ?_; rintro e w6 ⟨u, rfl, hO, hc'⟩; have HO := hid hO; have HC8 := hid (HC7.out.trans hc'); have HX6 := hid (hc'.heap HX5.out (by simp)); clear hO))
  clear hc' hc6 F1 D z0 z1 z2 y0 c0 hT3
  have hc8 := HC8.out
  have hb5 : w.heap.size ≤ w5.heap.size := HC7.out.size
  have hu5 := own_base HO.out hb5
  have HU := hid hu5
  clear hu5 HO
  obtain ⟨c0, c1, c2⟩ := three_cells HX6.out
  by_cases ho : 10 ^ (2 * (L - M) - 1) ≤ q
  · have hD := HD.out
    rw [if_pos ho] at hD
    subst hD
    rw [decide_eq_true ho]
    clear HD ho
    go_wp2_with (fail)
    go_returns
    exact ⟨_, rfl, World.ownsRow_nil _ _ _ _, hc8⟩
  · have hD := HD.out
    rw [if_neg ho] at hD
    rw [decide_eq_false ho]
    have HR := hid hD
    clear HD ho hD
    go_upto_region 10 with (fail)
    have hT6 := hid (HT.out.keep hc8)
    go_region_held3 (fun w' => w'.cell? ⟨w2.heap.size, 0, none⟩ = some (.bool an))
      (first | go_keep | exact hc'.cell (by assumption) (by simp))
      (first | (go_at_call 40; refine (G _ hT6.out.drew).mono ?_; rintro e w7 ⟨rfl, hc'⟩; have HC9 := hid ((Chg.drew [] w6).trans hc')) | (go_at_call 38; refine (F2 _).mono ?_; rintro e w8 ⟨u2, rfl, hO, hc'⟩; have HO2 := hid hO; have HC10 := hid (HC9.out.trans hc'); clear hO))
    clear hc'
    have hlen2 : (fldN M an r).length = M := by simp [fldN, fld_length]
    have hr2 : Reads w8 u2 (fldN M an r) := Reads.of_own (by rw [hlen2]; exact HO2.out)
    have HRR := hid hr2
    have HU2 := hid (own_keep HU.out HC10.out (by simp))
    have hc11 := hc8.trans HC10.out
    rcases hr2.parts hlen2 with ⟨_, h0, _⟩ | ⟨bb, off, cap, rfl, _, _, _, _⟩
    · omega
    go_wp2_with (at_builtin; refine appendR rfl _ _ 22 rfl w.heap.size 5 1 (.int .u8 0) Tryd.underlying22 info_u8 rfl (by decide) (fldN M an r) M bb off cap hlen2 HRR.out HU2.out rfl rfl (by omega) hc11.size ?_; intro v1 w9 ho1 hc9; have HO1 := hid ho1; have HC12 := hid (chg_own hc11 HU2.out (Nat.le_refl _) hc9); clear ho1 hc9)
    go_returns
    have hR := HR.out
    subst hR
    have hL : (fldN (L - M) (an != bn) q ++ fldN M an r).length = L - M + M := by simp [fldN, fld_length]
    exact ⟨v1, rfl, by rw [hL, List.map_append]; exact HO1.out, HC12.out⟩

end Go.Proofs.YtmklkfogddppmaaDoor

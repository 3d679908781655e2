/- ToBinary and FromBinary of jobshop/decimal. -/
import Derived.Test.YtmklkfogddppmaaDoorKDZap
namespace Go.Proofs.YtmklkfogddppmaaDoor
open Go.RowKit Go.Shelf
set_option linter.unusedVariables false
set_option linter.unusedSimpArgs false

/-- the signed number of a field -/
def fint (b : Bs) : Int := if rn b then -(rv b : Int) else rv b
/-- P4.6 -/
def toF (b : Bs) : Int × Int := if b.length = 8 then (if fok b then (IntKind.u32.wrap (fint b), if fint b < -2147483648 ∨ 2147483647 < fint b then 9 else 0) else (0, 7)) else (0, 6)

theorem rv_lt8 (b : Bs) (h : b.length = 8) : rv b < 1000000000000000 := by
  unfold rv
  by_cases hf : fok b = true
  · rw [if_pos hf]
    have hl := (fok_parts b hf).2.1
    have := val_lt _ hl
    rw [List.length_tail, nibr_length, h] at this
    exact this
  · rw [if_neg hf]; decide

theorem w32 (x : Int) (h1 : -1000000000000000 < x) (h2 : x < 1000000000000000) : (x != wrap64 (wrap32 x)) = decide (x < -2147483648 ∨ 2147483647 < x) := by
  rw [Bool.eq_iff_iff, bne_iff_ne, decide_eq_true_iff]
  unfold wrap64 wrap32
  omega
theorem u32w (x : Int) : IntKind.u32.wrap x = x % 4294967296 := by simp [IntKind.wrap, IntKind.bits, IntKind.signed]

set_option maxHeartbeats 1000000 in
theorem ToBinary_any (w : World) (vb : Value) (b : Bs) (hvb : Reads w vb b) :
    Calls Tryd.prog 27 #[vb] w fun e w' => e = .returned (.tuple #[.int .u32 (toF b).1, .int .i64 (toF b).2]) ∧ Chg [] w w' := by
  have R := read_any w vb b hvb
  obtain ⟨pb, cb, rfl⟩ := hvb.shape (L := b.length) rfl
  unfold toF
  by_cases h8 : b.length = 8
  · have hlt := rv_lt8 b h8
    rw [if_pos h8]
    rw [h8] at R ⊢
    cases hf : fok b
    · rw [if_neg (by simp)]
      rw [hf] at R
      obtain ⟨xh, xl, -, -, -, q2⟩ := num_parts (rn b) (rv b) (by omega)
      rw [q2] at R
      clear q2 hf hlt h8 hvb
      go_enter Tryd.func27, Tryd.ntmps27
      go_wp2_with (go_at_call 57; refine R.mono ?_; rintro e w2 ⟨rfl, hc⟩)
      go_returns
      exact ⟨rfl, hc.trans (Chg.alloc _ _ _)⟩
    · rw [if_pos rfl]
      rw [hf] at R
      unfold fint
      generalize rn b = n at *
      generalize rv b = v at *
      have q2 : num n v = .agg #[.bool n, .int .u64 ((0 : Nat) : Int), .int .u64 (v : Int)] := num_of n 0 v v (by omega) (by omega)
      rw [q2] at R
      clear q2 hf h8 hvb
      have e1 : IntKind.i64.wrap (v : Int) = (v : Int) := by simp [IntKind.wrap, IntKind.bits, IntKind.signed]; omega
      have e2 : IntKind.i64.wrap (-(v : Int)) = -(v : Int) := by simp [IntKind.wrap, IntKind.bits, IntKind.signed]; omega
      cases n
      · have hw := w32 (v : Int) (by omega) (by omega)
        show Calls _ _ _ _ fun e w' => e = .returned (.tuple #[.int .u32 (IntKind.u32.wrap (v : Int)), .int .i64 (if (v : Int) < -2147483648 ∨ 2147483647 < (v : Int) then 9 else 0)]) ∧ Chg [] w w'
        by_cases hb : (v : Int) < -2147483648 ∨ 2147483647 < (v : Int)
        · rw [decide_eq_true hb] at hw
          rw [if_pos hb]
          clear hb hlt
          go_enter Tryd.func27, Tryd.ntmps27
          go_wp2_with (go_at_call 57; refine R.mono ?_; rintro e w2 ⟨rfl, hc⟩)
          go_returns
          exact ⟨by rw [u32w]; rfl, hc.trans (Chg.alloc _ _ _)⟩
        · rw [decide_eq_false hb] at hw
          rw [if_neg hb]
          clear hb hlt
          go_enter Tryd.func27, Tryd.ntmps27
          go_wp2_with (go_at_call 57; refine R.mono ?_; rintro e w2 ⟨rfl, hc⟩)
          go_returns
          exact ⟨by rw [u32w]; rfl, hc.trans (Chg.alloc _ _ _)⟩
      · have hw := w32 (-(v : Int)) (by omega) (by omega)
        show Calls _ _ _ _ fun e w' => e = .returned (.tuple #[.int .u32 (IntKind.u32.wrap (-(v : Int))), .int .i64 (if (-(v : Int)) < -2147483648 ∨ 2147483647 < (-(v : Int)) then 9 else 0)]) ∧ Chg [] w w'
        by_cases hb : (-(v : Int)) < -2147483648 ∨ 2147483647 < (-(v : Int))
        · rw [decide_eq_true hb] at hw
          rw [if_pos hb]
          clear hb hlt
          go_enter Tryd.func27, Tryd.ntmps27
          go_wp2_with (go_at_call 57; refine R.mono ?_; rintro e w2 ⟨rfl, hc⟩)
          go_returns
          exact ⟨by rw [u32w]; rfl, hc.trans (Chg.alloc _ _ _)⟩
        · rw [decide_eq_false hb] at hw
          rw [if_neg hb]
          clear hb hlt
          go_enter Tryd.func27, Tryd.ntmps27
          go_wp2_with (go_at_call 57; refine R.mono ?_; rintro e w2 ⟨rfl, hc⟩)
          go_returns
          exact ⟨by rw [u32w]; rfl, hc.trans (Chg.alloc _ _ _)⟩
  · have e0 : ((b.length : Int) != 8) = true := by simp; omega
    rw [if_neg h8]
    clear R hvb
    generalize b.length = N at *
    go_enter Tryd.func27, Tryd.ntmps27
    go_wp2_with (fail)
    go_returns
    exact ⟨rfl, Chg.refl _ _⟩

/-- P4.6: the signed number of a word -/
def sint (v : Nat) : Int := if v < 2147483648 then (v : Int) else (v : Int) - 4294967296
def fromF (v : Nat) : Bs := fldN 8 (decide (sint v < 0)) (sint v).natAbs

set_option maxHeartbeats 1000000 in
theorem FromBinary_any (w : World) (v : Nat) (hv : v < 4294967296) (ht : Tab w) :
    Calls Tryd.prog 29 #[.int .u32 (v : Int)] w fun e w' => ∃ u, e = .returned u ∧ w'.ownsRow w.heap.size 5 1 u 8 ((fromF v).map eb) ∧ Chg [] w w' := by
  have HT := hid ht
  unfold fromF
  obtain ⟨n, hn⟩ : ∃ n, sint v = n := ⟨_, rfl⟩
  have e1 : IntKind.i32.wrap (v : Int) = n := by rw [← hn]; unfold sint; simp [IntKind.wrap, IntKind.bits, IntKind.signed]; split <;> omega
  have hb : -2147483648 ≤ n ∧ n ≤ 2147483647 := by rw [← hn]; unfold sint; split <;> omega
  have e2 : wrap64 n = n := by unfold wrap64; omega
  have e3 : wrap64 (-n) = -n := by unfold wrap64; omega
  rw [hn]
  clear hn
  have hlen : ∀ k, k < 4294967296 → (Lib.decDigits k).length ≤ 1000 := fun k hk => Nat.le_trans ((dec_len _ 31 (by omega)).2 (by omega)) (by omega)
  by_cases h0 : n < 0
  · have hk : max n (-n) = ((n.natAbs : Nat) : Int) := by omega
    obtain ⟨k, hkk⟩ : ∃ k, n.natAbs = k := ⟨_, rfl⟩
    rw [decide_eq_true h0]
    rw [hkk] at hk ⊢
    have hk2 : k < 4294967296 := by omega
    clear hkk
    have q2 : num true k = .agg #[.bool true, .int .u64 ((0 : Nat) : Int), .int .u64 (k : Int)] := num_of true 0 k k (by omega) (by omega)
    have D := fun W hW => ddigits_num true k W (by omega) hW
    rw [q2] at D
    have F := fun W => write_dec true k 8 W (by omega) (by omega) (hlen k hk2)
    clear q2 hlen
    go_enter Tryd.func29, Tryd.ntmps29
    go_upto_region 3 with (fail)
    have HX := hid (heap_alloc_new w (.cells #[.bool true, .int .u64 0, .int .u64 (k : Int)] 43 (0, 0)))
    have hc3 := Chg.alloc [] w (.cells #[.bool true, .int .u64 0, .int .u64 (k : Int)] 43 (0, 0))
    generalize w.alloc (.cells #[.bool true, .int .u64 0, .int .u64 (k : Int)] 43 (0, 0)) = W3 at *
    obtain ⟨c0, c1, c2⟩ := three_cells HX.out
    have hT3 := hid (HT.out.keep hc3)
    go_region_with (first
      | (go_at_call 39; refine (D _ hT3.out.drew).mono ?_; rintro e w5 ⟨rfl, hc5⟩; obtain ⟨x0, x1, x2⟩ := three_cells (hc5.heap HX.out (by simp)))
      | (go_at_call 38; refine (F _).mono ?_; rintro e w6 ⟨u, rfl, hO, hC⟩))
    all_goals
      have hc6 := hc3.trans ((Chg.drew [] W3).trans hc5)
      go_wp2_with (fail)
      go_returns
      exact ⟨u, by simp [Act.put], own_base hO hc6.size, hc6.trans hC⟩
  · have hk : max n (-n) = ((n.natAbs : Nat) : Int) := by omega
    obtain ⟨k, hkk⟩ : ∃ k, n.natAbs = k := ⟨_, rfl⟩
    rw [decide_eq_false h0]
    rw [hkk] at hk ⊢
    have hk2 : k < 4294967296 := by omega
    clear hkk
    have q2 : num false k = .agg #[.bool false, .int .u64 ((0 : Nat) : Int), .int .u64 (k : Int)] := num_of false 0 k k (by omega) (by omega)
    have D := fun W hW => ddigits_num false k W (by omega) hW
    rw [q2] at D
    have F := fun W => write_dec false k 8 W (by omega) (by omega) (hlen k hk2)
    clear q2 hlen
    go_enter Tryd.func29, Tryd.ntmps29
    go_upto_region 3 with (fail)
    have HX := hid (heap_alloc_new w (.cells #[.bool false, .int .u64 0, .int .u64 (k : Int)] 43 (0, 0)))
    have hc3 := Chg.alloc [] w (.cells #[.bool false, .int .u64 0, .int .u64 (k : Int)] 43 (0, 0))
    generalize w.alloc (.cells #[.bool false, .int .u64 0, .int .u64 (k : Int)] 43 (0, 0)) = W3 at *
    obtain ⟨c0, c1, c2⟩ := three_cells HX.out
    have hT3 := hid (HT.out.keep hc3)
    go_region_with (first
      | (go_at_call 39; refine (D _ hT3.out.drew).mono ?_; rintro e w5 ⟨rfl, hc5⟩; obtain ⟨x0, x1, x2⟩ := three_cells (hc5.heap HX.out (by simp)))
      | (go_at_call 38; refine (F _).mono ?_; rintro e w6 ⟨u, rfl, hO, hC⟩))
    all_goals
      have hc6 := hc3.trans ((Chg.drew [] W3).trans hc5)
      go_wp2_with (fail)
      go_returns
      exact ⟨u, by simp [Act.put], own_base hO hc6.size, hc6.trans hC⟩

end Go.Proofs.YtmklkfogddppmaaDoor

/- Sub of jobshop/decimal. -/
namespace Go.Proofs.YtmklkfogddppmaaDoor
open Go.RowKit Go.Shelf
set_option linter.unusedVariables false
set_option linter.unusedSimpArgs false

set_option maxHeartbeats 1000000 in
theorem Sub_any (w : World) (va vb : Value) (a b : Bs) (hva : Reads w va a) (hvb : Reads w vb b) (ht : Tab w) :
    Calls Tryd.prog 23 #[va, vb] w fun e w' => ∃ u, e = .returned (.tuple #[u, .int .i64 (addF a b true).2.1, .int .i64 (addF a b true).2.2]) ∧
      w'.ownsRow w.heap.size 5 1 u (addF a b true).1.length ((addF a b true).1.map eb) ∧ Chg [] w w' := by
  have P := pair_any w va vb a b hva hvb
  obtain ⟨pa, ca, rfl⟩ := hva.shape (L := a.length) rfl
  by_cases hc : codeS a b = 0
  · obtain ⟨k1, k2, _, _⟩ := code_len a b hc
    have e0 : (codeS a b != 0) = false := by simp [hc]
    unfold addF
    rw [if_pos hc]
    unfold pn pv at P
    rw [if_pos hc, if_pos hc, if_pos hc, if_pos hc, hc] at P
    have A := fun W => add_num (rn a) (!rn b) (rv a) (rv b) W (by have := rv_lt a; have := rv_lt b; omega)
    have hS : addS (rn a) (rv a) (!rn b) (rv b) = sumN a b true := rfl
    rw [hS] at A
    have hlt := sumN_lt a b true
    have hlen : (Lib.decDigits (sumN a b true).2).length ≤ 1000 := Nat.le_trans ((dec_len _ 32 (by omega)).2 hlt) (by omega)
    generalize (sumN a b true) = s at *
    obtain ⟨sn, sv⟩ := s
    simp only at A hlt hlen ⊢
    obtain ⟨xh, xl, -, -, -, q2⟩ := num_parts (rn a) (rv a) (by have := rv_lt a; omega)
    obtain ⟨yh, yl, -, p1, p2, q4⟩ := num_parts (rn b) (rv b) (by have := rv_lt b; omega)
    have q5 := num_of (!rn b) yh yl (rv b) p1 p2
    clear p1 p2
    obtain ⟨zh, zl, -, -, -, q6⟩ := num_parts sn sv (by omega)
    have D := fun W hW => ddigits_num sn sv W (by omega) hW
    have F := fun W => finish_any sn sv a.length W k1 k2 hlen
    rw [q2, q4] at P
    rw [q2, q5, q6] at A
    rw [q6] at D
    have HT := hid ht
    have hL : (finF (sn, sv) a.length).1.length = a.length := by simp [finF, finS, fldN, fld_length]
    rw [hL]
    show Calls _ _ _ _ fun e w' => ∃ u, e = .returned (.tuple #[u, .int .i64 (finC sn sv a.length), .int .i64 (finO sv a.length)]) ∧ w'.ownsRow w.heap.size 5 1 u a.length ((finS sn sv a.length).map eb) ∧ Chg [] w w'
    clear q2 q4 q5 q6 hL hS e0 hva hvb ht hc hlt hlen
    generalize a.length = N at *
    go_enter Tryd.func23, Tryd.ntmps23
    go_upto_region 6 with (first
      | (go_at_call 47; refine P.mono ?_; rintro e w2 ⟨rfl, hc1⟩)
      | (go_at_call 48; refine (A _).mono ?_; rintro e w3 ⟨rfl, hc2⟩))
    have HX := hid (heap_alloc_new w3 (.cells #[.bool sn, .int .u64 (zh : Int), .int .u64 (zl : Int)] 43 (0, 0)))
    have hc3 := (((hc1.trans (Chg.alloc _ _ _)).trans (Chg.alloc _ _ _)).trans hc2).trans (Chg.alloc [] w3 (.cells #[.bool sn, .int .u64 (zh : Int), .int .u64 (zl : Int)] 43 (0, 0)))
    clear hc1 hc2 P A
    generalize w3.alloc (.cells #[.bool sn, .int .u64 (zh : Int), .int .u64 (zl : Int)] 43 (0, 0)) = W3 at *
    obtain ⟨c0, c1, c2⟩ := three_cells HX.out
    have hT3 := hid (HT.out.keep hc3)
    go_region_with (first
      | (go_at_call 39; refine (D _ hT3.out.drew).mono ?_; rintro e w5 ⟨rfl, hc5⟩; obtain ⟨x0, x1, x2⟩ := three_cells (hc5.heap HX.out (by simp)))
      | (go_at_call 51; refine (F _).mono ?_; rintro e w6 ⟨u, rfl, hO, hC⟩))
    all_goals
      have hc6 := hc3.trans ((Chg.drew [] W3).trans hc5)
      go_wp2_with (fail)
      go_returns
      exact ⟨u, by simp [Act.put], own_base hO hc6.size, hc6.trans hC⟩
  · have e0 : (codeS a b != 0) = true := by simp [hc]
    unfold addF
    rw [if_neg hc]
    unfold pn pv at P
    rw [if_neg hc, if_neg hc, if_neg hc, if_neg hc, num_zero] at P
    generalize codeS a b = c at *
    go_enter Tryd.func23, Tryd.ntmps23
    go_wp2_with (go_at_call 47; refine P.mono ?_; rintro e w2 ⟨rfl, hc1⟩)
    go_returns
    exact ⟨_, rfl, World.ownsRow_nil _ _ _ _, (hc1.trans (Chg.alloc _ _ _)).trans (Chg.alloc _ _ _)⟩

end Go.Proofs.YtmklkfogddppmaaDoor

/- ToBinary and FromBinary of the reference of layer 4. -/
import Derived.Test.YtmklkfogddppmaaDoorKDWorks
import Derived.Test.YtmklkfogddppmaaDoorKDBin
namespace Go.Proofs.YtmklkfogddppmaaDoor
open Go.RowKit Go.Shelf
set_option linter.unusedVariables false
set_option linter.unusedSimpArgs false

theorem horner (v k : Nat) : 10 * (v / 10 ^ (k + 1)) + v / 10 ^ k % 10 = v / 10 ^ k := by
  have h := Nat.div_add_mod (v / 10 ^ k) 10
  rw [Nat.pow_succ, ← Nat.div_div_eq_div_mul]; omega

theorem toF_end {x c X C : Int} (h1 : x = X) (h2 : c = C) : Ending.returned (.tuple #[.int .u32 x, .int .i64 c]) = Ending.returned (.tuple #[.int .u32 X, .int .i64 C]) := by rw [h1, h2]

set_option maxRecDepth 100000 in
set_option maxHeartbeats 2000000 in
theorem rToBinary_any (w : World) (vb : Value) (b : Bs) (hvb : Reads w vb b) :
    Calls Tryd.prog 28 #[vb] w fun e w' => e = .returned (.tuple #[.int .u32 (toF b).1, .int .i64 (toF b).2]) ∧ Chg [] w w' := by
  have R := Of_any w vb b hvb
  obtain ⟨pb, cb, rfl⟩ := hvb.shape (L := b.length) rfl
  unfold toF
  by_cases h8 : b.length = 8
  · have hlt := rv_lt8 b h8
    rw [if_pos h8]
    rw [h8] at R ⊢
    cases hf : fok b
    · rw [if_neg (by simp)]
      rw [hf] at R
      clear hf hlt h8 hvb
      go_enter Tryd.func28, Tryd.ntmps28
      go_wp2_with (go_at_call 56; refine R.mono ?_; rintro e w2 ⟨u, rfl, hd, hc⟩; obtain ⟨ua, uL, uc, rfl, -, -, -⟩ := hd.shape; clear hd)
      go_returns
      exact ⟨rfl, hc.trans (Chg.alloc _ _ _)⟩
    · rw [if_pos rfl]
      rw [hf] at R
      unfold fint
      generalize rn b = n at *
      generalize rv b = v at *
      clear hf h8 hvb
      obtain ⟨F, hF⟩ : ∃ F, (if n = true then -(v : Int) else (v : Int)) = F := ⟨_, rfl⟩
      rw [hF]
      obtain ⟨X, hX⟩ : ∃ X, IntKind.u32.wrap F = X := ⟨_, rfl⟩
      obtain ⟨C, hC⟩ : ∃ C, (if F < -2147483648 ∨ 2147483647 < F then (9 : Int) else 0) = C := ⟨_, rfl⟩
      show Calls _ _ _ _ fun e w' => e = .returned (.tuple #[.int .u32 (IntKind.u32.wrap F), .int .i64 (if F < -2147483648 ∨ 2147483647 < F then (9 : Int) else 0)]) ∧ Chg [] w w'
      rw [hX, hC]
      have HF := hid hF
      have HX0 := hid hX
      have HC0 := hid hC
      clear hF hX hC
      have hle : ∀ k, v / 10 ^ k < 1000000000000000 := fun k => Nat.lt_of_le_of_lt (Nat.div_le_self _ _) hlt
      have HLE := hid hle
      have HH := hid (horner v)
      have HGD := hid (digs_getD v)
      have H0 := hid (show ∀ k, (digs v).length ≤ k → v / 10 ^ k = 0 from fun k hk => Nat.div_eq_of_lt ((digs_length v k).1 hk))
      clear hle
      go_enter Tryd.func28, Tryd.ntmps28
      go_upto_region 6 with (go_at_call 56; refine R.mono ?_; rintro e w2 ⟨u, rfl, hd, hc⟩; have HD := hid hd; obtain ⟨ua, uL, uc, rfl, q1, q2, huL⟩ := hd.shape; clear hd)
      have HX := hid (heap_alloc_new w2 (.cells #[.bool n, .slice ua uL uc] 54))
      have hc1 := Chg.alloc [] w2 (.cells #[.bool n, .slice ua uL uc] 54)
      have hc2 := hc.trans hc1
      have HD1 := hid (HD.out.keep hc1)
      rw [huL] at H0
      clear huL R hc hc1 HD
      generalize w2.alloc (.cells #[.bool n, .slice ua uL uc] 54) = W1 at *
      obtain ⟨c0, c1⟩ := two_cells HX.out
      go_wp2_with (fail)
      go_loop [6, 7] (fun x i => ∃ (k : Nat) (j : Int), i = .int .i64 j ∧ j ≤ (k : Int) - 1 ∧ (k : Int) - 1 ≤ j ∧ k ≤ uL ∧ x = .int .i64 ((v / 10 ^ k : Nat) : Int)) (fun _ i => (intOf i + 1).toNat)
      case atStart => exact ⟨uL, _, rfl, by omega, by omega, by omega, by rw [H0.out uL (Nat.le_refl _)]; rfl⟩
      case round =>
        obtain ⟨k, j, rfl, hj1, hj2, hk, rfl⟩ := hrel
        by_cases h0 : 0 ≤ j
        · obtain ⟨m, rfl⟩ := Int.eq_ofNat_of_zero_le h0
          obtain rfl : k = m + 1 := by omega
          obtain ⟨bb, off, rfl, hcell⟩ := HD1.out.at m (by omega)
          rw [HGD.out m] at hcell
          have hd : v / 10 ^ m % 10 < 10 := Nat.mod_lt _ (by decide)
          have hq := HLE.out (m + 1)
          have HS := hid (HH.out m)
          generalize v / 10 ^ m % 10 = d at *
          generalize v / 10 ^ (m + 1) = q at *
          go_wp2_with (fail)
          go_round
          case rel => exact ⟨m, _, rfl, by omega, by omega, by omega, by rw [← HS.out]; go_num⟩
          case measure => first | (simp [intOf]; done) | (simp [intOf]; omega)
        · obtain rfl : k = 0 := by omega
          rw [Nat.pow_zero, Nat.div_one]
          have e2 : IntKind.i64.wrap (-(v : Int)) = -(v : Int) := by simp [IntKind.wrap, IntKind.bits, IntKind.signed]; omega
          cases n
          · by_cases h3 : (2147483647 : Int) < (v : Int)
            · skip
              go_wp2_with (fail)
              go_returns
              have hF : F = (v : Int) := HF.out.symm
              rw [hF] at HX0 HC0
              exact ⟨toF_end (by rw [← HX0.out, u32w] <;> omega) (by rw [← HC0.out, if_pos (Or.inr h3)]), hc2⟩
            · skip
              go_wp2_with (fail)
              go_returns
              have hF : F = (v : Int) := HF.out.symm
              rw [hF] at HX0 HC0
              exact ⟨toF_end (by rw [← HX0.out, u32w] <;> omega) (by rw [← HC0.out, if_neg (by omega)]), hc2⟩
          · by_cases h3 : -(v : Int) < -2147483648
            · skip
              go_wp2_with (fail)
              go_returns
              have hF : F = -(v : Int) := HF.out.symm
              rw [hF] at HX0 HC0
              exact ⟨toF_end (by rw [← HX0.out, u32w] <;> omega) (by rw [← HC0.out, if_pos (Or.inl h3)]), hc2⟩
            · skip
              go_wp2_with (fail)
              go_returns
              have hF : F = -(v : Int) := HF.out.symm
              rw [hF] at HX0 HC0
              exact ⟨toF_end (by rw [← HX0.out, u32w] <;> omega) (by rw [← HC0.out, if_neg (by omega)]), hc2⟩
  · rw [if_neg h8]
    have e0 : ((b.length : Int) != 8) = true := by simp; omega
    clear hvb R h8
    generalize b.length = L at *
    go_enter Tryd.func28, Tryd.ntmps28
    go_wp2_with (fail)
    go_returns
    exact ⟨rfl, Chg.refl _ _⟩

set_option maxRecDepth 100000 in
set_option maxHeartbeats 2000000 in
theorem rFromBinary_loop (w : World) (v : Nat) (ng : Bool) (N : Nat) (hN : N < 4294967296) (n : Int) (hb : -2147483648 ≤ n ∧ n ≤ 2147483647)
    (hmx : max n (-n) = (N : Int)) (hng : ng = decide (n < 0)) (hv : (v : Int) = n ∧ n < 2147483648 ∧ 0 ≤ n ∨ (2147483648 ≤ v ∧ (v : Int) - 4294967296 = n ∧ n < 0)) :
    Calls Tryd.prog 30 #[.int .u32 (v : Int)] w fun e w' => ∃ u, e = .returned u ∧ w'.ownsRow w.heap.size 5 1 u 8 ((fldN 8 ng N).map eb) ∧ Chg [] w w' := by
  have HF : Hid (∀ (W : World) (ng : Bool) (x : Nat) (u : Value), Dg W u x → Calls Tryd.prog 44 #[.agg #[.bool ng, u], .int .i64 8] W fun e w' => ∃ r, e = .returned (.tuple #[r, .bool (decide (10 ^ (2 * 8 - 1) ≤ x))]) ∧
      w'.ownsRow W.heap.size 5 1 r 8 ((fldN 8 ng x).map eb) ∧ Chg [] W w') := hid (fun W ng x u h => Field_any W ng x u 8 h (by omega) (by omega))
  have HPV := hid (fun (k0 : Nat) (h : k0 ≠ 0) => digs_pos h)
  rcases hv with ⟨h1, h2, h3⟩ | ⟨h0, h1, h3⟩
  · have hng2 : ng = false := by rw [hng]; exact decide_eq_false (by omega)
    have hNv : (N : Int) = v := by omega
    obtain rfl : N = v := by omega
    subst hng2
    have f1 : ¬ (2147483648 : Int) ≤ (N : Int) := by omega
    have e1 : IntKind.i64.wrap (-(N : Int)) = -(N : Int) := IntWalk.i64_in _ (by omega)
    have e2 : IntKind.i64.wrap (N : Int) = (N : Int) := IntWalk.i64_in _ (by omega)
    have f2 : ¬ (N : Int) < 0 := by omega
    have f3 : -(N : Int) ≤ (N : Int) := by omega
    clear hmx hng h1 h2 h3 hNv hb
    go_enter Tryd.func30, Tryd.ntmps30
    go_wp2_with (fail)
    have HB0 := hid (al_new (w := w) (o := .cells #[.bool false, .slice none 0 0] 54) rfl)
    go_loopw [3] (fun n wr => ∃ (k0 : Nat) (j : Int) (o : List Nat) (u : Value), n = .int .i64 j ∧ j ≤ (k0 : Int) ∧ (k0 : Int) ≤ j ∧ k0 < 4294967296 ∧ Hid (digs N = o ++ digs k0) ∧ Hid (wr.heap[w.heap.size]? = some (.cells #[.bool false, u] 54 (0, 0))) ∧ wr.ownsRow (w.heap.size + 1) 3 1 u o.length (o.map en) ∧ Chg [] w wr) (fun n _ => (intOf n).toNat)
    case atStart => exact ⟨N, _, [], _, rfl, by omega, by omega, hN, hid rfl, HB0, World.ownsRow_nil _ _ _ _, Chg.alloc _ _ _⟩
    case round =>
      clear HB0 e1 e2 f1 f2 f3
      obtain ⟨k0, j, o, u, rfl, hj1, hj2, hk, HD, HB, hown, hc⟩ := hrel
      obtain ⟨ua, uc, rfl, -⟩ := own_slice hown
      have hlen : o.length ≤ 10 := by
        have h1 := congrArg List.length HD.out
        rw [List.length_append] at h1
        have h2 := digs_len_le N 10 (by omega)
        omega
      obtain ⟨c0, c1⟩ := two_cells HB.out
      have hsz := lt_of_block HB.out
      by_cases hj0 : 0 < j
      · obtain ⟨m, rfl⟩ := Int.eq_ofNat_of_zero_le (Int.le_of_lt hj0)
        obtain rfl : m = k0 := by omega
        have he := hid (show [Value.int .i64 ((m : Int) % 10)] = [m % 10].map en from by simp [en])
        have HD2 := hid (show digs N = (o ++ [m % 10]) ++ digs (m / 10) from by rw [HD.out, HPV.out m (by omega), List.append_assoc]; rfl)
        have hnb := hid (show ∀ k ∈ own (.slice ua o.length uc), k ≠ w.heap.size from fun k hk e => by have := own_ge hown k hk; omega)
        clear HD
        go_wp2_with (at_builtin; refine appendN rfl _ _ 52 rfl (w.heap.size + 1) 3 8 (.int .i64 0) Tryd.underlying52 info_int rfl (by decide) 1 [_] rfl hown rfl rfl (by simp [Value.oneCell']) (by omega) (by omega) ?_; intro v' w' ho' hc'; have HOW := hid ho'; obtain ⟨fa, fc, rfl, -⟩ := own_slice ho'; have HB2 := hid (hc'.heap HB.out (fun e => hnb.out _ e rfl)); obtain ⟨e0, e1⟩ := two_cells HB2.out; have e2 := frozen_of_row _ _ 1 _ _ HB2.out; clear ho')
        go_roundw
        case rel =>
          have ho2 := HOW.out
          rw [he.out, ← List.map_append] at ho2
          refine ⟨m / 10, _, o ++ [m % 10], _, rfl, by omega, by omega, by omega, HD2, hid (heap_setCell_same w' w.heap.size 1 _ _ _ HB2.out), ?_, (chg_own hc hown (by omega) hc').then (Chg.setCell (L := [w.heap.size]) w' (.inl (by simp)) _) (by simp <;> omega)⟩
          rw [List.length_append]
          exact own_keep ho2 (Chg.setCell (L := [w.heap.size]) w' (.inl (by simp)) _) (fun k hk e => by have h5 := own_ge ho2 k hk; simp at e; omega)
        case measure => simp [intOf]; omega
      · obtain rfl : k0 = 0 := by omega
        have HDD := HD.out
        rw [digs_zero, List.append_nil] at HDD
        have HDG : Hid (Dg wr (.slice ua o.length uc) N) := hid (by unfold Dg; rw [HDD]; exact ReadsV.ofn hown rfl)
        have HC := hid hc
        clear hown HD HDD hc
        go_wp2_with (go_at_call 44; refine (HF.out _ false N _ HDG.out).mono ?_; rintro e w6 ⟨u6, rfl, hO, hc6⟩)
        go_returns
        exact ⟨u6, rfl, own_base hO HC.out.size, HC.out.trans hc6⟩
  · have hng2 : ng = true := by rw [hng]; exact decide_eq_true h3
    subst hng2
    have hNv : (N : Int) = 4294967296 - v := by omega
    have HNV := hid hNv
    have f1 : (2147483648 : Int) ≤ (v : Int) := by omega
    have e1 : IntKind.i64.wrap (-((v : Int) - 4294967296)) = -((v : Int) - 4294967296) := IntWalk.i64_in _ (by omega)
    have e3 : IntKind.i64.wrap ((v : Int) - 4294967296) = (v : Int) - 4294967296 := IntWalk.i64_in _ (by omega)
    have e2 : IntKind.i64.wrap (v : Int) = (v : Int) := IntWalk.i64_in _ (by omega)
    have f2 : (v : Int) - 4294967296 < 0 := by omega
    have f4 : (N : Int) ≤ 4294967296 - v := by omega
    have f5 : 4294967296 - v ≤ (N : Int) := by omega
    clear hmx hng h0 h1 h3 hNv hb
    go_enter Tryd.func30, Tryd.ntmps30
    go_wp2_with (fail)
    have HB0 := hid (al_new (w := w) (o := .cells #[.bool true, .slice none 0 0] 54) rfl)
    go_loopw [3] (fun n wr => ∃ (k0 : Nat) (j : Int) (o : List Nat) (u : Value), n = .int .i64 j ∧ j ≤ (k0 : Int) ∧ (k0 : Int) ≤ j ∧ k0 < 4294967296 ∧ Hid (digs N = o ++ digs k0) ∧ Hid (wr.heap[w.heap.size]? = some (.cells #[.bool true, u] 54 (0, 0))) ∧ wr.ownsRow (w.heap.size + 1) 3 1 u o.length (o.map en) ∧ Chg [] w wr) (fun n _ => (intOf n).toNat)
    case atStart => exact ⟨N, _, [], _, rfl, by omega, by omega, hN, hid rfl, HB0, World.ownsRow_nil _ _ _ _, Chg.alloc _ _ _⟩
    case round =>
      clear HB0 e1 e2 e3 f1 f2 f4 f5
      obtain ⟨k0, j, o, u, rfl, hj1, hj2, hk, HD, HB, hown, hc⟩ := hrel
      obtain ⟨ua, uc, rfl, -⟩ := own_slice hown
      have hlen : o.length ≤ 10 := by
        have h1 := congrArg List.length HD.out
        rw [List.length_append] at h1
        have h2 := digs_len_le N 10 (by omega)
        omega
      obtain ⟨c0, c1⟩ := two_cells HB.out
      have hsz := lt_of_block HB.out
      by_cases hj0 : 0 < j
      · obtain ⟨m, rfl⟩ := Int.eq_ofNat_of_zero_le (Int.le_of_lt hj0)
        obtain rfl : m = k0 := by omega
        have he := hid (show [Value.int .i64 ((m : Int) % 10)] = [m % 10].map en from by simp [en])
        have HD2 := hid (show digs N = (o ++ [m % 10]) ++ digs (m / 10) from by rw [HD.out, HPV.out m (by omega), List.append_assoc]; rfl)
        have hnb := hid (show ∀ k ∈ own (.slice ua o.length uc), k ≠ w.heap.size from fun k hk e => by have := own_ge hown k hk; omega)
        clear HD
        go_wp2_with (at_builtin; refine appendN rfl _ _ 52 rfl (w.heap.size + 1) 3 8 (.int .i64 0) Tryd.underlying52 info_int rfl (by decide) 1 [_] rfl hown rfl rfl (by simp [Value.oneCell']) (by omega) (by omega) ?_; intro v' w' ho' hc'; have HOW := hid ho'; obtain ⟨fa, fc, rfl, -⟩ := own_slice ho'; have HB2 := hid (hc'.heap HB.out (fun e => hnb.out _ e rfl)); obtain ⟨e0, e1⟩ := two_cells HB2.out; have e2 := frozen_of_row _ _ 1 _ _ HB2.out; clear ho')
        go_roundw
        case rel =>
          have ho2 := HOW.out
          rw [he.out, ← List.map_append] at ho2
          refine ⟨m / 10, _, o ++ [m % 10], _, rfl, by omega, by omega, by omega, HD2, hid (heap_setCell_same w' w.heap.size 1 _ _ _ HB2.out), ?_, (chg_own hc hown (by omega) hc').then (Chg.setCell (L := [w.heap.size]) w' (.inl (by simp)) _) (by simp <;> omega)⟩
          rw [List.length_append]
          exact own_keep ho2 (Chg.setCell (L := [w.heap.size]) w' (.inl (by simp)) _) (fun k hk e => by have h5 := own_ge ho2 k hk; simp at e; omega)
        case measure => simp [intOf]; omega
      · obtain rfl : k0 = 0 := by omega
        have HDD := HD.out
        rw [digs_zero, List.append_nil] at HDD
        have HDG : Hid (Dg wr (.slice ua o.length uc) N) := hid (by unfold Dg; rw [HDD]; exact ReadsV.ofn hown rfl)
        have HC := hid hc
        clear hown HD HDD hc
        go_wp2_with (go_at_call 44; refine (HF.out _ true N _ HDG.out).mono ?_; rintro e w6 ⟨u6, rfl, hO, hc6⟩)
        go_returns
        exact ⟨u6, rfl, own_base hO HC.out.size, HC.out.trans hc6⟩

theorem rFromBinary_any (w : World) (v : Nat) (hv : v < 4294967296) :
    Calls Tryd.prog 30 #[.int .u32 (v : Int)] w fun e w' => ∃ u, e = .returned u ∧ w'.ownsRow w.heap.size 5 1 u 8 ((fromF v).map eb) ∧ Chg [] w w' := by
  unfold fromF
  have hb : -2147483648 ≤ sint v ∧ sint v ≤ 2147483647 := by unfold sint; split <;> omega
  refine rFromBinary_loop w v _ _ (by omega) (sint v) hb (by omega) rfl ?_
  unfold sint
  split <;> omega

end Go.Proofs.YtmklkfogddppmaaDoor

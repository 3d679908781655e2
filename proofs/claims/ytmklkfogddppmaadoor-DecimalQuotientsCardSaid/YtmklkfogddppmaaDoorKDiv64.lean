/- math/bits.Div64: the quotient and the remainder of two words by one. -/
import Derived.Test.YtmklkfogddppmaaDoorShelf
import Derived.Shelf.Bits.Mul64
import Derived.Lib.Walk
import Derived.WalkKit
import Derived.Deep.DeepCutAuto
import Derived.Deep.CutBlock
import Derived.Deep.QuietTactic
import Derived.BigQuiet
import Derived.Test.YtmklkfogddppmaaDoorKFrameB
import Derived.Test.YtmklkfogddppmaaDoorKKnuth
namespace Go.Proofs.YtmklkfogddppmaaDoor
open Go.RowKit Go.Shelf
set_option linter.unusedVariables false

set_option maxHeartbeats 1600000 in
set_option maxRecDepth 100000 in
theorem Div64_zero (lo y : Nat) (w : World) (hy : 1 ≤ y) (hy2 : y < 18446744073709551616) (hlo : lo < 18446744073709551616) :
    Calls Tryd.prog 64 #[.int .u64 0, .int .u64 (lo : Int), .int .u64 (y : Int)] w fun e w' => e = .returned (.tuple #[.int .u64 ((lo / y : Nat) : Int), .int .u64 ((lo % y : Nat) : Int)]) ∧ Chg [] w w' := by
  have h0 : ((y : Int) == 0) = false := beq_eq_false_iff_ne.2 (by omega)
  have h1 : ¬ (y : Int) ≤ 0 := by omega
  have hq : IntKind.u64.wrap ((lo : Int) / (y : Int)) = (lo : Int) / (y : Int) := by
    have h9 : lo / y ≤ lo := Nat.div_le_self _ _
    rw [show (lo : Int) / (y : Int) = ((lo / y : Nat) : Int) from rfl]
    exact Mul64.wrapN _ (by omega)
  go_enter Tryd.func64, Tryd.ntmps64
  go_wp2_with (fail)
  go_quiet (fail)
  go_wp2_with (fail)
  go_returns
  exact ⟨by simp only [Array.getD_eq_getD_getElem?]; simp, (Chg.refl _ _).drewN _⟩

theorem lz_any (y s : Nat) (w : World) (h2 : y < 18446744073709551616) (h : (Lib.bitLen y : Int) = 64 - s) : Calls Tryd.prog 79 #[.int .u64 (y : Int)] w fun e w' => e = .returned (.int .i64 (s : Int)) ∧ w = w' := by
  refine (Tryd.bits_LeadingZeros64 y w (by omega) (by omega)).mono ?_
  rintro e w' ⟨rfl, rfl⟩
  exact ⟨by rw [Int.toNat_natCast, h]; congr 2; omega, rfl⟩

set_option maxHeartbeats 1600000 in
set_option maxRecDepth 100000 in
theorem Div64_any (hi lo y : Nat) (w : World) (hy : hi < y) (hhi : 1 ≤ hi) (hy2 : y < 18446744073709551616) (hlo : lo < 18446744073709551616) :
    Calls Tryd.prog 64 #[.int .u64 (hi : Int), .int .u64 (lo : Int), .int .u64 (y : Int)] w fun e w' => e = .returned (.tuple #[.int .u64 (((hi * 18446744073709551616 + lo) / y : Nat) : Int), .int .u64 (((hi * 18446744073709551616 + lo) % y : Nat) : Int)]) ∧ Chg [] w w' := by
  have h0 : ((y : Int) == 0) = false := beq_eq_false_iff_ne.2 (by omega)
  have h1 : ¬ (y : Int) ≤ hi := by omega
  have h2 : ((hi : Int) == 0) = false := beq_eq_false_iff_ne.2 (by omega)
  obtain ⟨s, hs1, hs2, hY1, hY2⟩ := kn_norm y (by omega) hy2
  have HS := hid hs1
  have hsh := kn_shift hi lo s hs2
  obtain ⟨Y, hY⟩ : ∃ Y, Y = y * 2 ^ s := ⟨_, rfl⟩
  rw [← hY] at hY1 hY2
  obtain ⟨A, hA⟩ : ∃ A, A = hi * 2 ^ s := ⟨_, rfl⟩
  obtain ⟨C, hC⟩ : ∃ C, C = lo / 2 ^ (64 - s) := ⟨_, rfl⟩
  obtain ⟨V, hV⟩ : ∃ V, V = lo * 2 ^ s % 18446744073709551616 := ⟨_, rfl⟩
  rw [← hA, ← hC, ← hV] at hsh
  have hp : 0 < 2 ^ s := Nat.pow_pos (by decide)
  have hAY : A + 2 ^ s ≤ Y := by rw [hA, hY, ← Nat.succ_mul]; exact Nat.mul_le_mul_right _ hy
  have hCs : C < 2 ^ s := by
    rw [hC]
    refine (Nat.div_lt_iff_lt_mul (Nat.pow_pos (by decide))).2 ?_
    rw [← Nat.pow_add, show s + (64 - s) = 64 from by omega]
    exact hlo
  obtain ⟨U, hU⟩ : ∃ U, U = A + C := ⟨_, rfl⟩
  have hUY : U < Y := by omega
  have hV2 : V < 18446744073709551616 := by rw [hV]; exact Nat.mod_lt _ (by decide)
  rw [← hU] at hsh
  obtain ⟨yn1, hy1⟩ : ∃ n, n = Y / 4294967296 := ⟨_, rfl⟩
  obtain ⟨yn0, hy0⟩ : ∃ n, n = Y % 4294967296 := ⟨_, rfl⟩
  obtain ⟨c1, hc1⟩ : ∃ n, n = V / 4294967296 := ⟨_, rfl⟩
  obtain ⟨c0, hc0⟩ : ∃ n, n = V % 4294967296 := ⟨_, rfl⟩
  have HYE := hid hY
  have HSH := hid hsh
  have HYN := hid (show Y = yn1 * 4294967296 + yn0 from by omega)
  have HVN := hid (show V = c1 * 4294967296 + c0 from by omega)
  have by1 : 2147483648 ≤ yn1 := by omega
  have by2 : yn1 < 4294967296 := by omega
  have by0 : yn0 < 4294967296 := by omega
  have bc1 : c1 < 4294967296 := by omega
  have bc0 : c0 < 4294967296 := by omega
  have e2 : IntKind.u64.wrap (s : Int) = (s : Int) := by rw [IntKind.wrap_u64]; omega
  have e3 : IntKind.u64.wrap ((y : Int) * 2 ^ s) = (Y : Int) := by rw [show (y : Int) * 2 ^ s = ((y * 2 ^ s : Nat) : Int) from by simp, ← hY]; exact Mul64.wrapN _ hY2
  have e6 : IntKind.u64.wrap ((hi : Int) * 2 ^ s) = (A : Int) := by rw [show (hi : Int) * 2 ^ s = ((hi * 2 ^ s : Nat) : Int) from by simp, ← hA]; exact Mul64.wrapN _ (by omega)
  have e5 : (lo : Int) / 2 ^ (64 - s) = (C : Int) := by rw [hC]; simp
  have e8 : IntKind.u64.wrap ((lo : Int) * 2 ^ s) = (V : Int) := by rw [show (lo : Int) * 2 ^ s = ((lo * 2 ^ s : Nat) : Int) from by simp, hV]; exact Mul64.wrapM _
  have e7 : bits BinOp.or IntKind.u64 (A : Int) (C : Int) = (U : Int) := by
    have h := bits_or_u64_nat A C (by omega) (by omega)
    rw [h, hU]
    congr 1
    have := Nat.two_pow_add_eq_or_of_lt hCs hi
    rw [Nat.mul_comm] at this
    rw [hA]; omega
  have e9 : (Y : Int) / 4294967296 = (yn1 : Int) := by omega
  have e10 : bits BinOp.and IntKind.u64 (Y : Int) 4294967295 = (yn0 : Int) := by rw [Mul64.maskN Y hY2, hy0]
  have e11 : (V : Int) / 4294967296 = (c1 : Int) := by omega
  have e12 : bits BinOp.and IntKind.u64 (V : Int) 4294967295 = (c0 : Int) := by rw [Mul64.maskN V hV2, hc0]
  have hm : min s 64 = s := by omega
  have e4 : IntKind.u64.wrap (64 - (s : Int)) = ((64 - s : Nat) : Int) := by rw [IntKind.wrap_u64]; omega
  have hm2 : min (64 - s) 64 = 64 - s := by omega
  obtain ⟨i1, i2, i3, i4⟩ := kn_init U Y yn1 yn0 c1 HYN.out by0 by1 hUY bc1
  have I2 := hid i2
  have I3 := hid i3
  clear hs1 hsh hY hA hC hV hU hy1 hy0 hc1 hc0 hAY hCs hp i2 i3
  have hyn : ((yn1 : Int) == 0) = false := beq_eq_false_iff_ne.2 (by omega)
  go_enter Tryd.func64, Tryd.ntmps64
  go_upto_region 15 with (go_at_call 79; refine (lz_any y s _ hy2 HS.out).mono ?_; rintro e w' ⟨rfl, rfl⟩)
  clear e3 e4 e5 e6 e7 e8 e9 e10 e11 e12 hm2
  go_cut [15] (fun v W => v = .int .u64 ((U / yn1 : Nat) : Int) ∧ w = W)
  case first =>
    have e : IntKind.u64.wrap ((U : Int) / (yn1 : Int)) = ((U / yn1 : Nat) : Int) := by rw [show (U : Int) / (yn1 : Int) = ((U / yn1 : Nat) : Int) from rfl]; exact Mul64.wrapN _ (by omega)
    go_wp2_with (fail)
    go_meet
    exact ⟨rfl, rfl⟩
  case rest =>
    obtain ⟨rfl, rfl⟩ := hcut
    obtain ⟨q, hq⟩ : ∃ q, U / yn1 = q := ⟨_, rfl⟩
    obtain ⟨r, hr⟩ : ∃ r, U % yn1 = r := ⟨_, rfl⟩
    rw [hq, hr] at I3
    rw [hq] at I2 i1 ⊢
    rw [hr] at i4
    clear hq hr
    go_upto_region 16 with (fail)
    go_cut [16] (fun v W => v = .int .u64 (r : Int) ∧ w = W)
    case first =>
      have hmul : (q : Int) * (yn1 : Int) = ((q * yn1 : Nat) : Int) := Mul64.mulN _ _
      have h3 := I3.out
      generalize q * yn1 = m at *
      have H3 := hid h3
      clear h3
      go_wp2_with (fail)
      go_meet
      exact ⟨by have h3 := H3.out; rw [IntKind.wrap_u64, IntKind.wrap_u64]; congr 1; omega, rfl⟩
    case rest =>
      obtain ⟨rfl, rfl⟩ := hcut
      go_upto_block 0 with (fail)
      go_cut [15] (fun v W => ∃ q : Nat, v = .int .u64 (q : Int) ∧ Hid (q * Y ≤ U * 4294967296 + c1 ∧ U * 4294967296 + c1 < (q + 1) * Y) ∧ w = W)
      case first =>
        go_wp2_with (fail)
        go_loop [15, 16] (fun v u => ∃ q r : Nat, v = .int .u64 (q : Int) ∧ u = .int .u64 (r : Int) ∧ q ≤ 4294967297 ∧ r < 4294967296 ∧ Hid (U = q * yn1 + r) ∧ Hid (U * 4294967296 + c1 < (q + 1) * Y)) (fun v _ => (intOf v).toNat)
        case atStart => exact ⟨q, r, rfl, rfl, i1, by omega, I3, I2⟩
        case round =>
          clear I2 I3 i1 i4
          obtain ⟨q, r, rfl, rfl, j1, j2, J3, J4⟩ := hrel
          have hmul : (q : Int) * (yn0 : Int) = ((q * yn0 : Nat) : Int) := Mul64.mulN _ _
          by_cases hq : 4294967296 ≤ q
          · obtain ⟨k1, k2, k3⟩ := kn_yes U Y yn1 yn0 c1 q r HYN.out J3.out (by omega) (by omega) J4.out (.inl hq)
            have K2 := hid k2
            have K3 := hid k3
            have hq2 : (4294967296 : Int) ≤ (q : Int) := by omega
            clear k2 k3 hmul
            by_cases hb : 4294967296 ≤ r + yn1
            · have hb2 : (4294967296 : Int) ≤ (r : Int) + (yn1 : Int) := by omega
              go_wp2_with (fail)
              go_meet
              exact ⟨q - 1, by go_num, ⟨kn_break U Y yn1 yn0 c1 (q - 1) (r + yn1) HYN.out by0 K3.out (by omega) hb, K2.out⟩, rfl⟩
            · have hb2 : ¬ (4294967296 : Int) ≤ (r : Int) + (yn1 : Int) := by omega
              go_wp2_with (fail)
              go_round
              case rel => exact ⟨q - 1, r + yn1, by go_num, by go_num, by omega, by omega, K3, K2⟩
              case measure => simp [intOf]; omega
          · have hs0 : q * yn0 ≤ 4294967296 * 4294967295 := Nat.mul_le_mul (by omega) (by omega)
            have hq2 : ¬ (4294967296 : Int) ≤ (q : Int) := by omega
            by_cases hgt : 4294967296 * r + c1 < q * yn0
            · obtain ⟨k1, k2, k3⟩ := kn_yes U Y yn1 yn0 c1 q r HYN.out J3.out (by omega) (by omega) J4.out (.inr hgt)
              have K2 := hid k2
              have K3 := hid k3
              clear k2 k3
              generalize q * yn0 = m at *
              have hgt2 : (4294967296 : Int) * (r : Int) + (c1 : Int) < (m : Int) := by omega
              by_cases hb : 4294967296 ≤ r + yn1
              · have hb2 : (4294967296 : Int) ≤ (r : Int) + (yn1 : Int) := by omega
                go_wp2_with (fail)
                go_meet
                exact ⟨q - 1, by go_num, ⟨kn_break U Y yn1 yn0 c1 (q - 1) (r + yn1) HYN.out by0 K3.out (by omega) hb, K2.out⟩, rfl⟩
              · have hb2 : ¬ (4294967296 : Int) ≤ (r : Int) + (yn1 : Int) := by omega
                go_wp2_with (fail)
                go_round
                case rel => exact ⟨q - 1, r + yn1, by go_num, by go_num, by omega, by omega, K3, K2⟩
                case measure => simp [intOf]; omega
            · have K := hid (kn_no U Y yn1 yn0 c1 q r HYN.out J3.out (by omega))
              generalize q * yn0 = m at *
              have hgt2 : ¬ (4294967296 : Int) * (r : Int) + (c1 : Int) < (m : Int) := by omega
              go_wp2_with (fail)
              go_meet
              exact ⟨q, rfl, ⟨K.out, J4.out⟩, rfl⟩
      case rest =>
        obtain ⟨q1, rfl, hX, rfl⟩ := hcut
        obtain ⟨x1, x2⟩ := kn_digit (U * 4294967296 + c1) Y q1 (by omega) hX.out.1 hX.out.2
        obtain ⟨r1, hr1⟩ : ∃ r1, (U * 4294967296 + c1) % Y = r1 := ⟨_, rfl⟩
        rw [hr1] at x2
        have X1 := hid x1
        have HR1 := hid hr1
        have hr1Y : r1 < Y := by rw [← hr1]; exact Nat.mod_lt _ (by omega)
        have hqB : q1 < 4294967296 := by
          rw [x1]
          exact (Nat.div_lt_iff_lt_mul (by omega)).2 (by omega)
        have hle := hX.out.1
        clear hX x1 hr1
        go_upto_region 21 with (fail)
        go_cut [17] (fun v W => v = .int .u64 (r1 : Int) ∧ w = W)
        case first =>
          have hmul : (q1 : Int) * (Y : Int) = ((q1 * Y : Nat) : Int) := Mul64.mulN _ _
          generalize q1 * Y = m at *
          have H2 := hid x2
          have HLE := hid hle
          clear x2 hle
          go_wp2_with (fail)
          go_meet
          exact ⟨by have h2 := H2.out; have h3 := HLE.out; simp only [IntKind.wrap_u64]; congr 1; omega, rfl⟩
        case rest =>
          obtain ⟨rfl, rfl⟩ := hcut
          clear x2 hle
          obtain ⟨i1, i2, i3, i4⟩ := kn_init r1 Y yn1 yn0 c0 HYN.out by0 by1 hr1Y bc0
          obtain ⟨q, hq⟩ : ∃ q, r1 / yn1 = q := ⟨_, rfl⟩
          obtain ⟨r, hr⟩ : ∃ r, r1 % yn1 = r := ⟨_, rfl⟩
          rw [hq, hr] at i3
          rw [hq] at i2 i1
          rw [hr] at i4
          have I2 := hid i2
          have I3 := hid i3
          have HQ := hid hq
          clear i2 i3 hq hr
          go_upto_region 22 with (fail)
          go_cut [18] (fun v W => v = .int .u64 (q : Int) ∧ w = W)
          case first =>
            go_wp2_with (fail)
            go_meet
            exact ⟨by rw [show (r1 : Int) / (yn1 : Int) = ((r1 / yn1 : Nat) : Int) from rfl, HQ.out, Mul64.wrapN _ (by omega)], rfl⟩
          case rest =>
            obtain ⟨rfl, rfl⟩ := hcut
            go_upto_region 23 with (fail)
            go_cut [16] (fun v W => v = .int .u64 (r : Int) ∧ w = W)
            case first =>
              have hmul : (q : Int) * (yn1 : Int) = ((q * yn1 : Nat) : Int) := Mul64.mulN _ _
              have h3 := I3.out
              generalize q * yn1 = m at *
              have H3 := hid h3
              clear h3
              go_wp2_with (fail)
              go_meet
              exact ⟨by have h3 := H3.out; rw [IntKind.wrap_u64, IntKind.wrap_u64]; congr 1; omega, rfl⟩
            case rest =>
              obtain ⟨rfl, rfl⟩ := hcut
              go_upto_block 2 with (fail)
              go_cut [18] (fun v W => ∃ q : Nat, v = .int .u64 (q : Int) ∧ Hid (q * Y ≤ r1 * 4294967296 + c0 ∧ r1 * 4294967296 + c0 < (q + 1) * Y) ∧ w = W)
              case first =>
                go_wp2_with (fail)
                go_loop [18, 16] (fun v u => ∃ q r : Nat, v = .int .u64 (q : Int) ∧ u = .int .u64 (r : Int) ∧ q ≤ 4294967297 ∧ r < 4294967296 ∧ Hid (r1 = q * yn1 + r) ∧ Hid (r1 * 4294967296 + c0 < (q + 1) * Y)) (fun v _ => (intOf v).toNat)
                case atStart => exact ⟨q, r, rfl, rfl, i1, by omega, I3, I2⟩
                case round =>
                  clear I2 I3 i1 i4
                  obtain ⟨q, r, rfl, rfl, j1, j2, J3, J4⟩ := hrel
                  have hmul : (q : Int) * (yn0 : Int) = ((q * yn0 : Nat) : Int) := Mul64.mulN _ _
                  by_cases hq : 4294967296 ≤ q
                  · obtain ⟨k1, k2, k3⟩ := kn_yes r1 Y yn1 yn0 c0 q r HYN.out J3.out (by omega) (by omega) J4.out (.inl hq)
                    have K2 := hid k2
                    have K3 := hid k3
                    have hq2 : (4294967296 : Int) ≤ (q : Int) := by omega
                    clear k2 k3 hmul
                    by_cases hb : 4294967296 ≤ r + yn1
                    · have hb2 : (4294967296 : Int) ≤ (r : Int) + (yn1 : Int) := by omega
                      go_wp2_with (fail)
                      go_meet
                      exact ⟨q - 1, by go_num, ⟨kn_break r1 Y yn1 yn0 c0 (q - 1) (r + yn1) HYN.out by0 K3.out (by omega) hb, K2.out⟩, rfl⟩
                    · have hb2 : ¬ (4294967296 : Int) ≤ (r : Int) + (yn1 : Int) := by omega
                      go_wp2_with (fail)
                      go_round
                      case rel => exact ⟨q - 1, r + yn1, by go_num, by go_num, by omega, by omega, K3, K2⟩
                      case measure => simp [intOf]; omega
                  · have hs0 : q * yn0 ≤ 4294967296 * 4294967295 := Nat.mul_le_mul (by omega) (by omega)
                    have hq2 : ¬ (4294967296 : Int) ≤ (q : Int) := by omega
                    by_cases hgt : 4294967296 * r + c0 < q * yn0
                    · obtain ⟨k1, k2, k3⟩ := kn_yes r1 Y yn1 yn0 c0 q r HYN.out J3.out (by omega) (by omega) J4.out (.inr hgt)
                      have K2 := hid k2
                      have K3 := hid k3
                      clear k2 k3
                      generalize q * yn0 = m at *
                      have hgt2 : (4294967296 : Int) * (r : Int) + (c0 : Int) < (m : Int) := by omega
                      by_cases hb : 4294967296 ≤ r + yn1
                      · have hb2 : (4294967296 : Int) ≤ (r : Int) + (yn1 : Int) := by omega
                        go_wp2_with (fail)
                        go_meet
                        exact ⟨q - 1, by go_num, ⟨kn_break r1 Y yn1 yn0 c0 (q - 1) (r + yn1) HYN.out by0 K3.out (by omega) hb, K2.out⟩, rfl⟩
                      · have hb2 : ¬ (4294967296 : Int) ≤ (r : Int) + (yn1 : Int) := by omega
                        go_wp2_with (fail)
                        go_round
                        case rel => exact ⟨q - 1, r + yn1, by go_num, by go_num, by omega, by omega, K3, K2⟩
                        case measure => simp [intOf]; omega
                    · have K := hid (kn_no r1 Y yn1 yn0 c0 q r HYN.out J3.out (by omega))
                      generalize q * yn0 = m at *
                      have hgt2 : ¬ (4294967296 : Int) * (r : Int) + (c0 : Int) < (m : Int) := by omega
                      go_wp2_with (fail)
                      go_meet
                      exact ⟨q, rfl, ⟨K.out, J4.out⟩, rfl⟩
              case rest =>
                obtain ⟨q0, rfl, hX, rfl⟩ := hcut
                obtain ⟨x3, x4⟩ := kn_digit (r1 * 4294967296 + c0) Y q0 (by omega) hX.out.1 hX.out.2
                obtain ⟨r0, hr0⟩ : ∃ r0, (r1 * 4294967296 + c0) % Y = r0 := ⟨_, rfl⟩
                rw [hr0] at x4
                have hr0Y : r0 < Y := by rw [← hr0]; exact Nat.mod_lt _ (by omega)
                have hq0B : q0 < 4294967296 := by
                  rw [x3]
                  exact (Nat.div_lt_iff_lt_mul (by omega)).2 (by omega)
                have hle := hX.out.1
                obtain ⟨f1, f2⟩ := kn_all (hi * 18446744073709551616 + lo) y s Y U V c1 c0 (by omega) HYE.out HSH.out HVN.out
                rw [HR1.out, ← X1.out, ← x3] at f1
                rw [HR1.out, hr0] at f2
                have F1 := hid f1
                have F2 := hid f2
                have hmul : (q0 : Int) * (Y : Int) = ((q0 * Y : Nat) : Int) := Mul64.mulN _ _
                clear hX x3 hr0 f1 f2
                generalize q0 * Y = m at *
                have H4 := hid x4
                have HLE := hid hle
                clear x4 hle
                go_wp2_with (fail)
                go_returns
                have e1 : IntKind.u64.wrap (IntKind.u64.wrap (IntKind.u64.wrap ((r1 : Int) * 4294967296) + (c0 : Int)) - IntKind.u64.wrap (m : Int)) = (r0 : Int) := by
                  have g1 := H4.out
                  have g2 := HLE.out
                  simp only [IntKind.wrap_u64]
                  omega
                refine ⟨?_, .refl _ w⟩
                rw [F1.out, F2.out, e1]
                simp

end Go.Proofs.YtmklkfogddppmaaDoor

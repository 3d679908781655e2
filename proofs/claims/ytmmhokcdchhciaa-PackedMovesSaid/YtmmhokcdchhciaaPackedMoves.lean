/- PackedMoves: Pack, Unpack and Offset return what the chapter specifies. -/
import Derived.Test.YtmmhokcdchhciaaSpoil
import Derived.Test.YtmmhokcdchhciaaRefPack
import Derived.Test.YtmmhokcdchhciaaRefUnp
import Derived.Test.YtmmhokcdchhciaaRefOff
import Derived.Test.YtmmhokcdchhciaaWorks
import Derived.Test.YtmmhokcdchhciaaArg
import Derived.Test.YtmmhokcdchhciaaPackedUnpacks
import Derived.KernelRfl
namespace Go.Proofs.Ytmmhokcdchhciaa
open Go.RowKit Go.Shelf
set_option linter.unusedVariables false

set_option maxRecDepth 100000 in
set_option maxHeartbeats 2000000 in
theorem pmoves_in (w : World) (v1 v2 : Value) (x0 y0 : Bs) (n : Int) (hv1 : Reads w v1 x0) (hv2 : Reads w v2 y0) :
    Calls Try.prog 5 #[v1, v2, .int .i64 n] w fun e w' => e = .returned (.bool true) ∧ Chg [] w w' := by
  obtain ⟨M, hM⟩ : ∃ M, x0.length = M := ⟨_, rfl⟩
  obtain ⟨N, hN⟩ : ∃ N, y0.length = N := ⟨_, rfl⟩
  obtain ⟨va, vc, rfl⟩ := hv1.shape hM
  obtain ⟨ua, uc, rfl⟩ := hv2.shape hN
  have HV1 := hid hv1
  have HV2 := hid hv2
  have HM := hid hM
  have HN := hid hN
  clear hv1 hv2 hM hN
  go_enter Try.func5, Try.ntmps5
  go_upto_if 11 with (fail)
  go_cut [0] (fun v W => ∃ a k c b, v = .slice a k c ∧ Reads W (.slice a k c) b ∧ Reads W (.slice ua N uc) y0 ∧ Chg [] w W)
  case first =>
    by_cases hM : M > 18
    · rcases HV1.out.parts HM.out with ⟨_, h0, _⟩ | ⟨bb, off, cap, hv, hm1, hm2, hm3, _⟩
      · omega
      cases hv
      have hr := hid (HV1.out.take 18 (by omega))
      go_wp2_with (fail)
      go_meet
      exact ⟨_, _, _, _, rfl, hr.out, HV2.out, Chg.refl _ _⟩
    · go_wp2_with (fail)
      go_meet
      exact ⟨_, _, _, _, rfl, HV1.out, HV2.out, Chg.refl _ _⟩
  case rest =>
    clear HV1 HM HV2
    obtain ⟨a, k, c, x, rfl, hr, hr2, hc⟩ := hcut
    have HR := hid hr
    have HV2 := hid hr2
    have HC := hid hc
    clear hr hr2 hc
    go_upto_if 16 with (fail)
    go_cut [1] (fun v W => ∃ a2 k2 c2 b2, v = .slice a2 k2 c2 ∧ Reads W (.slice a2 k2 c2) b2 ∧ Reads W (.slice a k c) x ∧ Chg [] w W)
    case first =>
      by_cases hM : N > 18
      · rcases HV2.out.parts HN.out with ⟨_, h0, _⟩ | ⟨bb, off, cap, hv, hm1, hm2, hm3, _⟩
        · omega
        cases hv
        have hr := hid (HV2.out.take 18 (by omega))
        go_wp2_with (fail)
        go_meet
        exact ⟨_, _, _, _, rfl, hr.out, HR.out, HC.out⟩
      · go_wp2_with (fail)
        go_meet
        exact ⟨_, _, _, _, rfl, HV2.out, HR.out, HC.out⟩
    case rest =>
      clear HR HV2 HN HC
      obtain ⟨a2, k2, c2, y, rfl, hr2, hr, hc⟩ := hcut
      have HX := hid hr
      have HY := hid hr2
      have HC := hid hc
      clear hr hr2 hc
      go_wp2_with (fail)
      go_loopw [26] (fun i wr => ∃ j : Nat, j ≤ 2 ∧ i = .int .i64 j ∧ Chg [] wc wr) (fun i _ => 2 - (intOf i).toNat)
      case atStart => exact ⟨0, by omega, rfl, Chg.refl _ _⟩
      case round =>
        obtain ⟨j, hj, rfl, hc⟩ := hrel
        by_cases hlt : j < 2
        · have hcase : j = 0 ∨ j = 1 := by omega
          have i0 : ∀ (p q : Int) (W : World), (Instr.index 35 (.agg #[.int .i64 p, .int .i64 q]) (.int .i64 0)).run Try.prog W = .ok (.int .i64 p) W := fun _ _ _ => by kernel_rfl
          have i1 : ∀ (p q : Int) (W : World), (Instr.index 35 (.agg #[.int .i64 p, .int .i64 q]) (.int .i64 1)).run Try.prog W = .ok (.int .i64 q) W := fun _ _ _ => by kernel_rfl
          rcases hcase with rfl | rfl
          · go_wp2_with (fail)
            refine Calls.mono (Pack_any _ _ x _ (HX.out.keep hc (by simp))) ?_
            rintro e w1 ⟨u1, rfl, ho, hc'⟩
            have HU1 := hid (Reads.of_own ho)
            have HC1 := hid (hc.trans hc')
            clear ho hc'
            go_wp2_with (fail)
            refine Calls.mono (rPack_any _ _ x _ (HX.out.keep HC1.out (by simp))) ?_
            rintro e w2 ⟨u2, rfl, ho, hc'⟩
            have HU2 := hid (Reads.of_own ho)
            have HU1 := hid (HU1.out.keep hc' (by simp))
            have HC2 := hid (HC1.out.trans hc')
            clear ho hc'
            go_wp2_with (fail)
            refine Calls.mono (Same_yes _ _ _ _ HU1.out HU2.out) ?_
            rintro e w3 ⟨rfl, rfl⟩
            clear HU1 HU2
            go_wp2_with (fail)
            refine Calls.mono (Unpack_any _ _ x _ (HX.out.keep HC2.out (by simp))) ?_
            rintro e w3 ⟨u1, rfl, ho, hc'⟩
            have HU1 := hid (Reads.of_own ho)
            have HC3 := hid (HC2.out.trans hc')
            clear ho hc'
            go_wp2_with (fail)
            refine Calls.mono (rUnpack_any _ _ x _ (HX.out.keep HC3.out (by simp))) ?_
            rintro e w4 ⟨u2, rfl, ho, hc'⟩
            have HU2 := hid (Reads.of_own ho)
            have HU1 := hid (HU1.out.keep hc' (by simp))
            have HC4 := hid (HC3.out.trans hc')
            clear ho hc'
            go_wp2_with (fail)
            refine Calls.mono (Same_yes _ _ _ _ HU1.out HU2.out) ?_
            rintro e w5 ⟨rfl, rfl⟩
            go_wp2_with (fail)
            go_roundw
            case rel => exact ⟨1, by omega, by go_num, HC4.out⟩
            case measure => simp [intOf]
          · go_wp2_with (fail)
            refine Calls.mono (Pack_any _ _ x _ (HX.out.keep hc (by simp))) ?_
            rintro e w1 ⟨u1, rfl, ho, hc'⟩
            have HU1 := hid (Reads.of_own ho)
            have HC1 := hid (hc.trans hc')
            clear ho hc'
            go_wp2_with (fail)
            refine Calls.mono (rPack_any _ _ x _ (HX.out.keep HC1.out (by simp))) ?_
            rintro e w2 ⟨u2, rfl, ho, hc'⟩
            have HU2 := hid (Reads.of_own ho)
            have HU1 := hid (HU1.out.keep hc' (by simp))
            have HC2 := hid (HC1.out.trans hc')
            clear ho hc'
            go_wp2_with (fail)
            refine Calls.mono (Same_yes _ _ _ _ HU1.out HU2.out) ?_
            rintro e w3 ⟨rfl, rfl⟩
            clear HU1 HU2
            go_wp2_with (fail)
            refine Calls.mono (Unpack_any _ _ x _ (HX.out.keep HC2.out (by simp))) ?_
            rintro e w3 ⟨u1, rfl, ho, hc'⟩
            have HU1 := hid (Reads.of_own ho)
            have HC3 := hid (HC2.out.trans hc')
            clear ho hc'
            go_wp2_with (fail)
            refine Calls.mono (rUnpack_any _ _ x _ (HX.out.keep HC3.out (by simp))) ?_
            rintro e w4 ⟨u2, rfl, ho, hc'⟩
            have HU2 := hid (Reads.of_own ho)
            have HU1 := hid (HU1.out.keep hc' (by simp))
            have HC4 := hid (HC3.out.trans hc')
            clear ho hc'
            go_wp2_with (fail)
            refine Calls.mono (Same_yes _ _ _ _ HU1.out HU2.out) ?_
            rintro e w5 ⟨rfl, rfl⟩
            go_wp2_with (fail)
            go_roundw
            case rel => exact ⟨2, by omega, by go_num, HC4.out⟩
            case measure => simp [intOf]
        · obtain rfl : j = 2 := by omega
          go_wp2_with (fail)
          refine Calls.mono (Offset_any _ _ _ x y (HX.out.keep hc (by simp)) (HY.out.keep hc (by simp))) ?_
          rintro e w1 ⟨u1, rfl, ho, hc'⟩
          have HU1 := hid (Reads.of_own ho)
          have HC1 := hid (hc.trans hc')
          clear ho hc'
          go_wp2_with (fail)
          refine Calls.mono (rOffset_any _ _ _ x y (HX.out.keep HC1.out (by simp)) (HY.out.keep HC1.out (by simp))) ?_
          rintro e w2 ⟨u2, rfl, ho, hc'⟩
          have HU2 := hid (Reads.of_own ho)
          have HU1 := hid (HU1.out.keep hc' (by simp))
          have HC2 := hid (HC1.out.trans hc')
          clear ho hc'
          go_wp2_with (fail)
          refine Calls.mono (Same_yes _ _ _ _ HU1.out HU2.out) ?_
          rintro e w3 ⟨rfl, rfl⟩
          go_wp2_with (fail)
          refine Calls.mono (works_yes _) ?_
          rintro e w8 ⟨rfl, hc'⟩
          have HC8 := hid ((HC.out.trans HC2.out).trans hc')
          clear hc'
          go_wp2_with (fail)
          go_returns
          exact ⟨rfl, HC8.out⟩

theorem PackedMoves_walk (a0 : Option Addr) (len0 cap0 : Nat) (z0 : List Int) (a1 : Option Addr) (len1 cap1 : Nat) (z1 : List Int) (a2 : Int) (w : World) (w0 : IsRow .u8 w a0 len0 cap0 z0) (w1 : IsRow .u8 w a1 len1 cap1 z1) (w2 : (Lit.int .i64 a2).wf = true) (s0 : ∀ x, a0 = some x → x.spot = none) (s1 : ∀ x, a1 = some x → x.spot = none) :
    Calls Try.prog 5 #[.slice a0 len0 cap0, .slice a1 len1 cap1, .int .i64 a2] w fun e w' => e = .returned (.bool true) ∧ Below w.heap.size w w' := by
  obtain ⟨b, hb⟩ := Reads.ofRow w0 s0
  obtain ⟨c, hc⟩ := Reads.ofRow w1 s1
  exact (pmoves_in w _ _ b c a2 hb hc).mono fun e w' ⟨he, hc⟩ => ⟨he, hc.nil_below⟩

end Go.Proofs.Ytmmhokcdchhciaa

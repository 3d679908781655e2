/- PackedBack: what is encoded is decoded as it was; a valid field is encoded again. -/
import Derived.Test.YtmmhokcdchhciaaWorks
import Derived.Test.YtmmhokcdchhciaaNumber
import Derived.Test.YtmmhokcdchhciaaArg
import Derived.Test.YtmmhokcdchhciaaSpecI
import Derived.Test.YtmmhokcdchhciaaPackedUnpacks
import Derived.Deep.LoopGhost
import Derived.Deep.QuietTactic
import Derived.BigQuiet
import Derived.Deep.DeepCutAuto
namespace Go.Proofs.Ytmmhokcdchhciaa
open Go.RowKit Go.Shelf
set_option linter.unusedVariables false

set_option maxRecDepth 100000 in
set_option maxHeartbeats 2000000 in
theorem back_in (w : World) (s : ByteArray) (neg : Bool) (n : Int) (v : Value) (b0 : Bs) (hs : s.size ≤ maxLen) (hn : 0 ≤ n) (hn2 : n < 256) (hv0 : Reads w v b0) :
    Calls Try.prog 6 #[.string s, .bool neg, .int .u8 n, v] w fun e w' => e = .returned (.bool true) ∧ Chg [] w w' := by
  obtain ⟨M, hM⟩ : ∃ M, b0.length = M := ⟨_, rfl⟩
  obtain ⟨va, vc, rfl⟩ := hv0.shape hM
  have HV0 := hid hv0
  have HM := hid hM
  clear hv0 hM
  obtain ⟨d, hd⟩ : ∃ d, d = numS s.data.toList := ⟨_, rfl⟩
  have hv := numS_valid s.data.toList
  have hl := numS_len s.data.toList
  rw [← hd] at hv hl
  have HD := hid hd
  clear hd
  have HV := hid hv
  clear hv
  obtain ⟨hl1, hl2⟩ := hl
  obtain ⟨z, hz⟩ : ∃ z : Nat, 1 + n % 16 = (z : Int) := ⟨(1 + n % 16).toNat, by omega⟩
  have hz1 : 1 ≤ z := by omega
  have hz2 : z ≤ 16 := by omega
  obtain ⟨L, hL⟩ : ∃ L, d.length = L := ⟨_, rfl⟩
  have HL := hid hL
  rw [hL] at hl1 hl2
  have HZ := hid hz
  clear hz hL
  obtain ⟨ov, hov⟩ : ∃ ov, decide (2 * (z : Int) - 1 < L) = ov := ⟨_, rfl⟩
  have HE := hid (show encS neg d (z : Int) = (fld z (sgn neg :: valsR d), ov) from by rw [← hov]; unfold encS; rw [HV.out, show okSize (z : Int) = true from by unfold okSize; simp; omega, HL.out]; rfl)
  have HOV := hid hov
  clear hov
  have HX := hid (show (⟨d.toArray⟩ : ByteArray).size = L from HL.out)
  go_enter Try.func6, Try.ntmps6
  go_wp2_with (first
    | (go_at_call 15; refine (works_yes _).mono ?_; rintro e w1 ⟨rfl, hc1⟩)
    | (go_at_call 12; refine (Number_any _ _ _ hs).mono ?_; rintro e w2 ⟨rfl, hc2⟩; rw [← HD.out]))
  rw [HZ.out]
  refine Calls.mono (Encode_any _ neg ⟨d.toArray⟩ (by rw [HX.out]; unfold maxLen; omega) z) ?_
  rw [show encS neg (⟨d.toArray⟩ : ByteArray).data.toList z = _ from HE.out]
  rintro e w3 ⟨u, rfl, ho, hc3⟩
  have hu := Reads.of_own ho
  obtain ⟨ua, uc, rfl⟩ := hu.shape (fld_length z _)
  have hb : w3.heap[w2.heap.size]? = some (.cells #[.bool neg, .string ⟨d.toArray⟩] 26 (0, 0)) := hc3.heap (al_new rfl) (by simp)
  have hc := ((hc1.trans hc2).trans (Chg.alloc _ _ _)).trans hc3
  have HB := hid hb
  have HU := hid hu
  clear hb hu ho hc1 hc2 hc3
  go_wp2_with (fail)
  go_at_call 25
  refine Calls.mono (Decode_any _ _ _ HU.out) ?_
  obtain ⟨⟨nn, dd⟩, hok⟩ := decS_fld_ok z neg d hz1 hz2 HV.out
  rw [hok]
  rintro e w4 ⟨rfl, hc4⟩
  have HE0 := hid (al_old (o := .cells #[.bool nn, .string ⟨dd.toArray⟩] 26) (hc4.heap HB.out (by simp)))
  have HE1 := hid (hc4.heap HB.out (by simp))
  have HOK := hid hok
  have HC := hid (hc.trans hc4)
  clear hok hc
  have HV4 := hid (HV0.out.keep HC.out (by simp))
  clear hc4 HB
  have hx := HX.out
  go_upto_region 6 with (fail)
  go_cut [69] (fun s W => s = .bool false ∧ Reads W (.slice va M vc) b0 ∧ Chg [] w W)
  case first =>
    obtain ⟨c0, c1⟩ := two_cells HE0.out
    obtain ⟨c2, c3⟩ := two_cells HE1.out
    have hov := HOV.out
    cases ov
    · have hov := of_decide_eq_false hov
      have hfit := decS_fld z neg d hz1 hz2 HV.out (by rw [HL.out]; omega)
      rw [HOK.out] at hfit
      cases hfit
      go_wp2_with (fail)
      go_meet
      exact ⟨rfl, HV4.out.keep (Chg.alloc [] _ _) (by simp), HC.out.trans (Chg.alloc _ _ _)⟩
    · have hov := of_decide_eq_true hov
      go_wp2_with (fail)
      go_meet
      exact ⟨rfl, HV4.out.keep (Chg.alloc [] _ _) (by simp), HC.out.trans (Chg.alloc _ _ _)⟩
  case rest =>
    obtain ⟨rfl, hv1, hc1⟩ := hcut
    have HV1 := hid hv1
    have HC1 := hid hc1
    clear hv1 hc1 HE0 HE1 HC HV4 HOK HE HX hx HU HL HV HD hl1 hl2
    go_upto_if 72 with (fail)
    go_cut [3] (fun v W => ∃ a k c b, v = .slice a k c ∧ Reads W (.slice a k c) b ∧ b.length = k ∧ k ≤ 16 ∧ Chg [] w W)
    case first =>
      by_cases hM : M > 16
      · rcases HV1.out.parts HM.out with ⟨_, h0, _⟩ | ⟨bb, off, cap, hv, hm1, hm2, hm3, _⟩
        · omega
        cases hv
        have hr := hid (HV1.out.take 16 (by omega))
        go_wp2_with (fail)
        go_meet
        exact ⟨_, _, _, _, rfl, hr.out, by rw [List.length_take, HM.out]; omega, by omega, HC1.out⟩
      · go_wp2_with (fail)
        go_meet
        exact ⟨_, _, _, _, rfl, HV1.out, HM.out, by omega, HC1.out⟩
    case rest =>
      clear HV1 HC1 HV0 HM
      obtain ⟨a, k, c, b, rfl, hr, hk, hk16, hc⟩ := hcut
      have HR := hid hr
      have HK := hid hk
      have HC := hid hc
      clear hr hk hc
      rcases hd : decS b with ⟨⟨ng, dg⟩, _ | _⟩
      · have HD := hid hd
        clear hd
        go_wp2_with (go_at_call 25; refine Calls.mono (Decode_any _ _ _ HR.out) ?_; rw [HD.out]; rintro e w5 ⟨rfl, hc5⟩; have HC5 := hid (HC.out.trans hc5); clear hc5)
        go_returns
        exact ⟨rfl, HC5.out.trans (Chg.alloc _ _ _)⟩
      · obtain ⟨b1, b2, b3, b4, b5, b6, b7⟩ := back b k HK.out ng dg hd
        have HD := hid hd
        have HB4 := hid b4
        have HB5 := hid b5
        have HB6 := hid b6
        have HB7 := hid b7
        clear hd b4 b5 b6 b7
        go_wp2_with (go_at_call 25; refine Calls.mono (Decode_any _ _ _ HR.out) ?_; rw [HD.out]; rintro e w5 ⟨rfl, hc5⟩; have HC5 := hid (HC.out.trans hc5); have HR5 := hid (HR.out.keep hc5 (by simp)); clear hc5)
        refine Calls.mono (Encode_any _ ng ⟨dg.toArray⟩ (by show dg.length ≤ maxLen; unfold maxLen; omega) k) ?_
        rw [show encS ng (⟨dg.toArray⟩ : ByteArray).data.toList k = _ from HB4.out]
        rintro e w6 ⟨u, rfl, ho, hc6⟩
        have hu := Reads.of_own ho
        have hb0 : w6.cell? ⟨w5.heap.size, 0, none⟩ = some (.bool ng) := (two_cells (hc6.heap (al_new rfl) (by simp))).1
        have HBN := hid hb0
        have hcx := (Chg.alloc [] w5 (.cells #[.bool ng, .string ⟨dg.toArray⟩] 26)).trans hc6
        have HR6 := hid (HR5.out.keep hcx (by simp))
        have HC6 := hid (HC5.out.trans hcx)
        clear hcx hc6 ho hb0
        have hfl := fld_length k (sgn ng :: valsR dg)
        generalize fld k (sgn ng :: valsR dg) = f at *
        rcases hu.parts hfl with ⟨_, h0, _⟩ | ⟨gb, goff, gcap, hv, _, hm2, hm3, HGC⟩
        · omega
        subst hv
        rcases HR6.out.parts HK.out with ⟨_, h0, _⟩ | ⟨bb, off, cap, hv, _, hm4, hm5, HBC⟩
        · omega
        cases hv
        clear hu HR HR5 HR6 hfl
        go_wp2_with (fail)
        go_loopw [19] (fun i wr => ∃ j : Nat, j + 1 ≤ k ∧ i = .int .i64 j ∧ ∃ n, wr = w6.drewN n) (fun i _ => k - (intOf i).toNat)
        case atStart => exact ⟨0, by omega, rfl, 0, rfl⟩
        case round =>
          obtain ⟨j, hj, rfl, n6, rfl⟩ := hrel
          by_cases hlt : j + 1 < k
          · have g1 := HGC.out j (by omega)
            have g2 := HBC.out j (by omega)
            rw [HB5.out j hlt] at g1
            have hlt2 : (j : Int) < k := by omega
            have h0 : (0 : Int) ≤ j := by omega
            go_wp2_with (fail)
            go_quiet (fail)
            go_wp2_with (fail)
            go_roundw
            case rel => exact ⟨j + 1, by omega, by go_num, _, rfl⟩
            case measure => simp [intOf]; omega
          · obtain rfl : k = j + 1 := by omega
            have g1 : (w6.drewN n6).cell? ⟨gb, goff + j, none⟩ = _ := HGC.out j (by omega)
            have g2 : (w6.drewN n6).cell? ⟨bb, off + j, none⟩ = _ := HBC.out j (by omega)
            have g0 : (w6.drewN n6).cell? ⟨w5.heap.size, 0, none⟩ = _ := HBN.out
            have e6 := HB6.out
            have e7 := HB7.out
            rw [Nat.add_sub_cancel] at e6 e7
            have l1 := bN_lt f j
            have l2 := bN_lt b j
            generalize bN f j = p at *
            generalize bN b j = q at *
            have e6 : (p : Int) / 16 = (q : Int) / 16 := by omega
            have hc := HC6.out.drewN n6
            generalize w6.drewN n6 = W at *
            have HCW := hid hc
            clear hc HGC HBC HBN HB6 HB5 HB7 HB4 hlt hj
            have h0 : (0 : Int) ≤ j := by omega
            cases ng
            · have e7 : (p : Int) % 16 = 12 := by have e8 : p % 16 = 12 := e7; omega
              go_wp2_with (fail)
              go_quiet (fail)
              go_wp2_with (fail)
              go_returns
              exact ⟨rfl, HCW.out.drewN _⟩
            · have e7 : (p : Int) % 16 = 13 := by have e8 : p % 16 = 13 := e7; omega
              go_wp2_with (fail)
              go_quiet (fail)
              go_wp2_with (fail)
              go_returns
              exact ⟨rfl, HCW.out.drewN _⟩

theorem PackedBack_walk (a0 : ByteArray) (a1 : Bool) (a2 : Int) (a3 : Option Addr) (len3 cap3 : Nat) (z3 : List Int) (w : World) (w0 : a0.size ≤ maxLen) (w2 : (Lit.int .u8 a2).wf = true) (w3 : IsRow .u8 w a3 len3 cap3 z3) (s3 : ∀ x, a3 = some x → x.spot = none) :
    Calls Try.prog 6 #[.string a0, .bool a1, .int .u8 a2, .slice a3 len3 cap3] w fun e w' => e = .returned (.bool true) ∧ Below w.heap.size w w' := by
  obtain ⟨b, hb⟩ := Reads.ofRow w3 s3
  obtain ⟨h1, h2⟩ := u8_range w2
  exact (back_in w a0 a1 a2 _ b w0 h1 h2 hb).mono fun e w' ⟨he, hc⟩ => ⟨he, hc.nil_below⟩

end Go.Proofs.Ytmmhokcdchhciaa

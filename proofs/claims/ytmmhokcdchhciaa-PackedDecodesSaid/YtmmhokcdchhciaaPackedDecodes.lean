/- PackedDecodes: Decode returns what the chapter specifies. -/
import Derived.Test.YtmmhokcdchhciaaSpoil
import Derived.Test.YtmmhokcdchhciaaWorks
import Derived.Test.YtmmhokcdchhciaaNumber
import Derived.Test.YtmmhokcdchhciaaArg
import Derived.Test.YtmmhokcdchhciaaPackedUnpacks
namespace Go.Proofs.Ytmmhokcdchhciaa
open Go.RowKit Go.Shelf
set_option linter.unusedVariables false

set_option maxRecDepth 100000 in
set_option maxHeartbeats 2000000 in
theorem pdecodes_in (w : World) (v : Value) (b0 : Bs) (s : ByteArray) (n at_ x : Int) (hs : s.size ≤ maxLen) (hn : 0 ≤ n) (hn2 : n < 256) (ha : 0 ≤ at_) (ha2 : at_ < 256) (hx : 0 ≤ x) (hx2 : x < 256) (hv0 : Reads w v b0) :
    Calls Try.prog 3 #[v, .string s, .int .u8 n, .int .u8 at_, .int .u8 x] w fun e w' => e = .returned (.bool true) ∧ Chg [] w w' := by
  obtain ⟨M, hM⟩ : ∃ M, b0.length = M := ⟨_, rfl⟩
  obtain ⟨va, vc, rfl⟩ := hv0.shape hM
  have HV0 := hid hv0
  have HM := hid hM
  clear hv0 hM
  obtain ⟨z, hz⟩ : ∃ z : Nat, 1 + n % 16 = (z : Int) := ⟨(1 + n % 16).toNat, by omega⟩
  have hz1 : 1 ≤ z := by omega
  have hz2 : z ≤ 16 := by omega
  have HZ := hid hz
  clear hz
  have HNV := hid (numS_valid s.data.toList)
  have HNL := hid (numS_len s.data.toList)
  go_enter Try.func3, Try.ntmps3
  go_upto_if 15 with (fail)
  go_cut [0] (fun v W => ∃ a k c b, v = .slice a k c ∧ Reads W (.slice a k c) b ∧ Chg [] w W)
  case first =>
    by_cases hM : M > 20
    · rcases HV0.out.parts HM.out with ⟨_, h0, _⟩ | ⟨bb, off, cap, hv, hm1, hm2, hm3, _⟩
      · omega
      cases hv
      have hr := hid (HV0.out.take 20 (by omega))
      go_wp2_with (fail)
      go_meet
      exact ⟨_, _, _, _, rfl, hr.out, Chg.refl _ _⟩
    · go_wp2_with (fail)
      go_meet
      exact ⟨_, _, _, _, rfl, HV0.out, Chg.refl _ _⟩
  case rest =>
    clear HV0 HM
    obtain ⟨a, k, c, b, rfl, hr, hc⟩ := hcut
    have HR := hid hr
    have HC := hid hc
    clear hr hc
    go_wp2_with (first
      | (go_at_call 12; refine (Number_any _ s _ hs).mono ?_; rintro e w2 ⟨rfl, hc'⟩; have HC2 := hid (HC.out.trans hc'); have HR2 := hid (HR.out.keep hc' (by simp)); clear hc'))
    rw [HZ.out]
    generalize hd : numS s.data.toList = d at *
    refine Calls.mono (rEncode_any _ _ ⟨d.toArray⟩ (by have := HNL.out.2; show d.length ≤ maxLen; unfold maxLen; omega) z) ?_
    have hlen : (encS (x % 2 == 1) (⟨d.toArray⟩ : ByteArray).data.toList z).1.length = z := by
      show (encS (x % 2 == 1) d z).1.length = z
      unfold encS
      rw [HNV.out, show okSize (z : Int) = true from by unfold okSize; simp; omega]
      simp [fld_length]
    have HLEN := hid hlen
    clear hlen hd
    generalize (encS (x % 2 == 1) (⟨d.toArray⟩ : ByteArray).data.toList z).1 = fd at *
    generalize (encS (x % 2 == 1) (⟨d.toArray⟩ : ByteArray).data.toList z).2 = fb at *
    rintro e w3 ⟨u3, rfl, ho, hc'⟩
    have HU3 := hid (Reads.of_own ho)
    have HC3 := hid (HC2.out.trans hc')
    have HR3 := hid (HR2.out.keep hc' (by simp))
    clear ho hc' HR HC HR2 HC2
    go_wp2_with (fail)
    refine Calls.mono (decodes_yes _ _ _ HR3.out) ?_
    rintro e w4 ⟨rfl, hc'⟩
    have HC4 := hid (HC3.out.trans hc')
    have HU4 := hid (HU3.out.keep hc' (by simp))
    clear hc' HR3 HU3 HC3
    go_wp2_with (fail)
    refine Calls.mono (decodes_yes _ _ _ HU4.out) ?_
    rintro e w5 ⟨rfl, hc'⟩
    have HC5 := hid (HC4.out.trans hc')
    have HU5 := hid (HU4.out.keep hc' (by simp))
    clear hc' HU4 HC4
    go_wp2_with (fail)
    refine Calls.mono (Spoil_any _ _ _ _ _ HU5.out (by rw [HLEN.out]; omega) (by rw [HLEN.out]; omega) ha ha2 hx hx2) ?_
    rintro e w6 ⟨r, q, rfl, hr, _, hc'⟩
    have HC6 := hid (HC5.out.trans hc')
    have HR6 := hid hr
    clear hc' HU5 HC5 hr
    go_wp2_with (fail)
    refine Calls.mono (decodes_yes _ _ _ HR6.out) ?_
    rintro e w7 ⟨rfl, hc'⟩
    have HC7 := hid (HC6.out.trans hc')
    clear hc' HR6 HC6
    go_wp2_with (fail)
    refine Calls.mono (works_yes _) ?_
    rintro e w8 ⟨rfl, hc'⟩
    have HC8 := hid (HC7.out.trans hc')
    clear hc'
    go_wp2_with (fail)
    go_returns
    exact ⟨rfl, HC8.out⟩

theorem PackedDecodes_walk (a0 : Option Addr) (len0 cap0 : Nat) (z0 : List Int) (a1 : ByteArray) (a2 a3 a4 : Int) (w : World) (w0 : IsRow .u8 w a0 len0 cap0 z0) (w1 : a1.size ≤ maxLen) (w2 : (Lit.int .u8 a2).wf = true) (w3 : (Lit.int .u8 a3).wf = true) (w4 : (Lit.int .u8 a4).wf = true) (s0 : ∀ x, a0 = some x → x.spot = none) :
    Calls Try.prog 3 #[.slice a0 len0 cap0, .string a1, .int .u8 a2, .int .u8 a3, .int .u8 a4] w fun e w' => e = .returned (.bool true) ∧ Below w.heap.size w w' := by
  obtain ⟨b, hb⟩ := Reads.ofRow w0 s0
  obtain ⟨h1, h2⟩ := u8_range w2
  obtain ⟨h3, h4⟩ := u8_range w3
  obtain ⟨h5, h6⟩ := u8_range w4
  exact (pdecodes_in w _ b a1 a2 a3 a4 w1 h1 h2 h3 h4 h5 h6 hb).mono fun e w' ⟨he, hc⟩ => ⟨he, hc.nil_below⟩

end Go.Proofs.Ytmmhokcdchhciaa

/- PackedUnpacks: packing what Unpack returned returns the field. -/
import Derived.Test.YtmmhokcdchhciaaWorks
import Derived.Test.YtmmhokcdchhciaaArg
import Derived.Test.YtmmhokcdchhciaaSpecH
namespace Go.Proofs.Ytmmhokcdchhciaa
open Go.RowKit Go.Shelf
set_option linter.unusedVariables false

theorem Reads.take {w : World} {bb off L cap : Nat} {b : Bs} (h : Reads w (.slice (some ⟨bb, off, none⟩) L cap) b) (k : Nat) (hk : k ≤ L) : Reads w (.slice (some ⟨bb, off, none⟩) k cap) (b.take k) := by
  obtain ⟨a, c, hv, h1, h2, h3, h4⟩ := h
  cases hv
  refine ⟨_, _, by rw [List.length_take, Nat.min_eq_left hk], by rw [List.length_take]; omega, h2, (fun h => by cases h), fun x hx => ?_⟩
  cases hx
  refine ⟨rfl, fun i hi => ?_⟩
  rw [List.length_take] at hi
  have := (h4 _ rfl).2 i (by omega)
  simpa using this

/-- packing what was unpacked -/
theorem pack_unpack (b : Bs) (L z : Nat) (hL : b.length = L) (h1 : 1 ≤ L) (h2 : L ≤ 8) (h3 : 2 * L - 1 ≤ z) (h4 : z ≤ 16) : (unpackS b z).length = z ∧ packS (unpackS b z) L = b := by
  have o1 : okSize L = true := by unfold okSize; simp; omega
  have o2 : okSize z = true := by unfold okSize; simp; omega
  have e := unpackS_eq b z (by rw [hL]; exact o1) o2
  have hl : (unpackS b z).length = z := by rw [e, unpF_length]
  refine ⟨hl, ?_⟩
  unfold packS
  rw [hl, o1, o2, e]
  have hn : ∀ i, (nibr b).getD i 0 < 16 := nibr_lt16 b
  have hg : ∀ i (h : i < (unpF z (nibr b)).length), (unpF z (nibr b))[i] = UInt8.ofNat (16 * (if i = z - 1 then (nibr b).getD 0 0 else 15) + (nibr b).getD (z - i) 0) := fun i h => by simp [unpF]
  have hlast : (unpF z (nibr b)).getLast?.getD 0 = UInt8.ofNat (16 * (nibr b).getD 0 0 + (nibr b).getD 1 0) := by
    rw [List.getLast?_eq_getElem?, unpF_length, List.getElem?_eq_getElem (by rw [unpF_length]; omega), Option.getD_some, hg, if_pos rfl, show z - (z - 1) = 1 from by omega]
  have hp : ∀ j, j < z + 1 → (((unpF z (nibr b)).getLast?.getD 0).toNat / 16 :: (unpF z (nibr b)).reverse.map (·.toNat % 16)).getD j 0 = (nibr b).getD j 0 := by
    intro j hj
    have h0 := hn 0
    have h1 := hn 1
    cases j with
    | zero =>
      rw [List.getD_cons_zero, hlast, toNat_ofNat (by omega)]; omega
    | succ k =>
      rw [List.getD_cons_succ, List.getD_eq_getElem?_getD, List.getElem?_eq_getElem (by simp [unpF_length]; omega), Option.getD_some, List.getElem_map, List.getElem_reverse, hg]
      have h3 := hn (k + 1)
      have hk : z - ((unpF z (nibr b)).length - 1 - k) = k + 1 := by rw [unpF_length]; omega
      rw [hk, toNat_ofNat (by split <;> omega)]
      split <;> omega
  simp only [Bool.and_self, if_true, Int.toNat_natCast]
  refine List.ext_getElem (by rw [fld_length, hL]) fun i h5 h6 => ?_
  have hi : i < L := by omega
  rw [fld_get, hp _ (by omega), hp _ (by omega)]
  obtain ⟨n1, n2⟩ := nibr_get b (L - 1 - i) (by omega)
  rw [hL, show L - 1 - (L - 1 - i) = i from by omega] at n1 n2
  rw [show 2 * L - 1 - 2 * i = 2 * (L - 1 - i) + 1 from by omega, show 2 * L - 2 - 2 * i = 2 * (L - 1 - i) from by omega, n1, n2]
  refine UInt8.toNat_inj.1 ?_
  have := bN_lt b i
  rw [toNat_ofNat (by omega), ← bN_get b i h6]
  omega

set_option maxRecDepth 100000 in
set_option maxHeartbeats 1000000 in
theorem unpacks_in (w : World) (v : Value) (b : Bs) (n : Int) (hv : Reads w v b) (hn : 0 ≤ n) (hn2 : n < 256) :
    Calls Try.prog 7 #[v, .int .u8 n] w fun e w' => e = .returned (.bool true) ∧ Chg [] w w' := by
  obtain ⟨L, hL⟩ : ∃ L, b.length = L := ⟨_, rfl⟩
  have H := hid hv
  rcases hv.parts hL with ⟨rfl, rfl, a, cap, rfl⟩ | ⟨bb, off, cap, rfl, hL1, hc1, hc2, _⟩
  · clear hv hL
    go_enter Try.func7, Try.ntmps7
    go_wp2_with (go_at_call 15; refine (works_yes _).mono ?_; rintro e w1 ⟨rfl, hc1⟩)
    refine Calls.mono (Unpack_any _ _ [] _ (H.out.keep hc1 (by simp))) ?_
    rw [unpackS_bad [] _ (.inl (by decide))]
    rintro e w2 ⟨u, rfl, ho, hc2⟩
    obtain ⟨ua, uc, rfl⟩ := (Reads.of_own ho).shape rfl
    have hc := hc1.trans hc2
    clear hc1 hc2 ho
    go_wp2_with (fail)
    go_returns
    exact ⟨rfl, hc⟩
  · have HL := hid hL
    clear hv hL
    by_cases h8 : (8 : Int) < L
    · obtain ⟨z, hz⟩ : ∃ z : Nat, 15 + n % 2 = (z : Int) := ⟨(15 + n % 2).toNat, by omega⟩
      have HZ := hid hz
      clear hz
      go_enter Try.func7, Try.ntmps7
      go_wp2_with (go_at_call 15; refine (works_yes _).mono ?_; rintro e w1 ⟨rfl, hc1⟩)
      have hz := HZ.out
      rw [hz]
      have hr := (H.out.keep hc1 (by simp)).take 8 (by omega)
      obtain ⟨hul, hup⟩ := pack_unpack (b.take 8) 8 z (by rw [List.length_take, HL.out]; omega) (by omega) (by omega) (by omega) (by omega)
      clear hz
      have hup : packS (unpackS (b.take 8) z) (8 : Int) = b.take 8 := hup
      refine Calls.mono (Unpack_any _ _ _ _ hr) ?_
      rintro e w2 ⟨u, rfl, ho, hc2⟩
      have hu := Reads.of_own ho
      obtain ⟨ua, uc, rfl⟩ := hu.shape hul
      have HU := hid hu
      have HP := hid hup
      have HR := hid (hr.keep hc2 (by simp))
      have hc := hc1.trans hc2
      clear hu hup hr ho hc1 hc2 hul
      go_wp2_with (fail)
      go_at_call 18
      refine Calls.mono (Pack_any _ _ _ _ HU.out) ?_
      rw [HP.out]
      rintro e w3 ⟨p, rfl, ho, hc3⟩
      have hp := Reads.of_own ho
      have HR3 := hid (HR.out.keep hc3 (by simp))
      have hc := hc.trans hc3
      clear ho hc3
      go_wp2_with (fail)
      go_at_call 26
      refine Calls.mono (same_yes _ _ _ _ hp HR3.out) ?_
      rintro e w4 ⟨rfl, hc4⟩
      have hc := hc.trans hc4
      clear hc4 hp
      go_wp2_with (fail)
      go_returns
      exact ⟨rfl, hc⟩
    · have hm1 := Int.emod_nonneg n (b := 17 - (2 * (L : Int) - 1)) (by omega)
      have hm2 := Int.emod_lt_of_pos n (b := 17 - (2 * (L : Int) - 1)) (by omega)
      obtain ⟨z, hz⟩ : ∃ z : Nat, 2 * (L : Int) - 1 + n % (17 - (2 * (L : Int) - 1)) = (z : Int) := ⟨(2 * (L : Int) - 1 + n % (17 - (2 * (L : Int) - 1))).toNat, by omega⟩
      have hz1 : 2 * L - 1 ≤ z := by omega
      have hz2 : z ≤ 16 := by omega
      have hw : wrap64 (2 * (L : Int) - 1 + n % (17 - (2 * (L : Int) - 1))) = (z : Int) := by rw [hz]; unfold wrap64; omega
      have HW := hid hw
      clear hz hm1 hm2 hw
      go_enter Try.func7, Try.ntmps7
      go_wp2_with (go_at_call 15; refine (works_yes _).mono ?_; rintro e w1 ⟨rfl, hc1⟩)
      rw [HW.out]
      have hr := H.out.keep hc1 (by simp)
      obtain ⟨hul, hup⟩ := pack_unpack b L z HL.out (by omega) (by omega) (by omega) (by omega)
      refine Calls.mono (Unpack_any _ _ _ _ hr) ?_
      rintro e w2 ⟨u, rfl, ho, hc2⟩
      have hu := Reads.of_own ho
      obtain ⟨ua, uc, rfl⟩ := hu.shape hul
      have HU := hid hu
      have HP := hid hup
      have HR := hid (hr.keep hc2 (by simp))
      have hc := hc1.trans hc2
      clear hu hup hr ho hc1 hc2 hul
      go_wp2_with (fail)
      go_at_call 18
      refine Calls.mono (Pack_any _ _ _ _ HU.out) ?_
      rw [HP.out]
      rintro e w3 ⟨p, rfl, ho, hc3⟩
      have hp := Reads.of_own ho
      have HR3 := hid (HR.out.keep hc3 (by simp))
      have hc := hc.trans hc3
      clear ho hc3
      go_wp2_with (fail)
      go_at_call 26
      refine Calls.mono (same_yes _ _ _ _ hp HR3.out) ?_
      rintro e w4 ⟨rfl, hc4⟩
      have hc := hc.trans hc4
      clear hc4 hp
      go_wp2_with (fail)
      go_returns
      exact ⟨rfl, hc⟩

theorem PackedUnpacks_walk (a0 : Option Addr) (len0 cap0 : Nat) (z0 : List Int) (a1 : Int) (w : World) (w0 : IsRow .u8 w a0 len0 cap0 z0) (w1 : (Lit.int .u8 a1).wf = true) (s0 : ∀ x, a0 = some x → x.spot = none) :
    Calls Try.prog 7 #[.slice a0 len0 cap0, .int .u8 a1] w fun e w' => e = .returned (.bool true) ∧ Below w.heap.size w w' := by
  obtain ⟨b, hb⟩ := Reads.ofRow w0 s0
  obtain ⟨h1, h2⟩ := u8_range w1
  exact (unpacks_in w _ b a1 hb h1 h2).mono fun e w' ⟨he, hc⟩ => ⟨he, hc.nil_below⟩

end Go.Proofs.Ytmmhokcdchhciaa

/- Unpack of the reference of layer 3. -/
import Derived.Test.YtmmhokcdchhciaaRefEnc
import Derived.Test.YtmmhokcdchhciaaSpecH
namespace Go.Proofs.Ytmmhokcdchhciaa
open Go.RowKit
set_option linter.unusedVariables false

theorem ReadsV.take {w : World} {bb off L cap : Nat} {b : List Nat} (h : ReadsV w (.slice (some ⟨bb, off, none⟩) L cap) (b.map en)) (k : Nat) (hk : k ≤ L) : ReadsV w (.slice (some ⟨bb, off, none⟩) k cap) ((b.take k).map en) := by
  obtain ⟨a, c, hv, h1, h2, h3, h4⟩ := h
  cases hv
  rw [List.length_map] at *
  refine ⟨some ⟨bb, off, none⟩, cap, by simp [Nat.min_eq_left hk], by simp; omega, h2, (fun h => by cases h), fun x hx => ?_⟩
  obtain ⟨h5, h6⟩ := h4 x hx
  refine ⟨h5, fun i hi => ?_⟩
  simp at hi
  rw [h6 i (by simp; omega)]
  simp

theorem nibL_init (b : Bs) (D : Nat) (hD : 2 * b.length = D) : (nibL b).take (D - 1) = (nibr b).tail.reverse := by
  have hl := nibr_length b
  rw [nibL_rev]
  cases h : nibr b with
  | nil => simp
  | cons x t =>
    rw [h, List.length_cons] at hl
    simp only [List.reverse_cons, List.tail_cons]
    rw [List.take_append_of_le_length (by simp; omega), List.take_of_length_le (by simp; omega)]
theorem nibL_last (b : Bs) (D : Nat) (hD : 2 * b.length = D) (h1 : 1 ≤ b.length) : (nibL b).getD (D - 1) 0 = (nibr b).getD 0 0 := by
  rw [nibL_rev, getD_reverse _ _ (by rw [nibr_length]; omega)]
  congr 1
  rw [nibr_length]; omega
theorem unpF_take_succ (m : Nat) (p : List Nat) (k : Nat) (h : k < m) :
    (unpF m p).take (k + 1) = (unpF m p).take k ++ [UInt8.ofNat (16 * (if k = m - 1 then p.getD 0 0 else 15) + p.getD (m - k) 0)] := by
  rw [List.take_succ_eq_append_getElem (by rw [unpF_length]; exact h)]
  simp [unpF]

set_option maxHeartbeats 1000000 in
theorem rUnpack_any (w : World) (v : Value) (b : Go.Proofs.Ytmmhokcdchhciaa.Bs) (n : Int) (hv : Reads w v b) :
    Calls Try.prog 21 #[v, .int .i64 n] w fun e w' =>
      ∃ r, e = .returned r ∧ w'.ownsRow w.heap.size 5 1 r (unpackS b n).length ((unpackS b n).map eb) ∧ Chg [] w w' := by
  obtain ⟨L, hL⟩ : ∃ L, b.length = L := ⟨_, rfl⟩
  by_cases h1 : okSize b.length = true
  · by_cases h2 : okSize n = true
    · obtain ⟨m, rfl, hm1, hm2⟩ := ok_nat h2
      rw [unpackS_eq b m h1 h2]
      rw [hL] at h1
      obtain ⟨q1, q2⟩ : 1 ≤ L ∧ L ≤ 16 := by unfold okSize at h1; simp at h1; omega
      obtain ⟨va, vc, rfl⟩ := hv.shape hL
      obtain ⟨D, hD⟩ : ∃ D, 2 * L = D := ⟨_, rfl⟩
      have hD1 : 2 ≤ D := by omega
      have hD2 : D ≤ 32 := by omega
      have HTS := hid (unpF_take_succ m (nibr b))
      have HUL := hid (unpF_length m (nibr b))
      have HNI := hid (nibL_init b D (by rw [hL]; exact hD))
      have HNZ := hid (nibL_last b D (by rw [hL]; exact hD) (by omega))
      have HNN := hid (show (nibL b).length = D from by rw [nibL_length, hL, hD])
      have HRL := hid (rightL_length ((nibL b).take (D - 1)) m)
      have HRG : Hid (∀ i, i < m → (rightL ((nibL b).take (D - 1)) m).getD i 0 = (nibr b).getD (m - i) 0) := fun i hi => by
        rw [HNI.out, rightL_getD _ _ _ hi]
        have : m - i = (m - 1 - i) + 1 := by omega
        rw [this]
        cases nibr b <;> simp
      have HRB := hid (nibr_lt16 b)
      have HV := hid hv
      have HL := hid hL
      have HD := hid hD
      clear hv hL hD
      go_enter Try.func21, Try.ntmps21
      go_wp2_with (first
        | (go_at_call 32; refine (rsize_any _ _).mono ?_; rintro e w2 ⟨rfl, rfl⟩))
      refine (Digits_any _ _ b L HV.out HL.out (by omega)).mono ?_
      rintro e w2 ⟨u2, rfl, ho, hc2⟩
      have hr := ReadsV.ofn ho (by rw [HNN.out, HD.out])
      have HC2 := hid hc2
      clear ho hc2
      rcases hr.parts HNN.out with ⟨_, h0, _⟩ | ⟨b2, o2, cap2, rfl, _, hm4, hm5, HC2L⟩
      · omega
      have hr1 := hr.take (D - 1) (by omega)
      have HR1 := hid hr1
      clear hr hr1
      go_wp2_with (fail)
      go_at_call 33
      refine (right_any _ _ ((nibL b).take (D - 1)) m HR1.out (by rw [List.length_take, HNN.out]; omega) (by omega)).mono ?_
      rintro e w3 ⟨u3, rfl, ho, hc3⟩
      have hr := ReadsV.ofn ho HRL.out
      have hlast := hc3.cell (HC2L.out (D - 1) (by omega)) (by simp)
      rw [HNZ.out] at hlast
      have HLAST := hid hlast
      have HC3 := hid (HC2.out.trans hc3)
      rcases hr.parts HRL.out with ⟨_, h0, _⟩ | ⟨b3, o3, cap3, rfl, _, hm6, hm7, HCL⟩
      · omega
      clear ho hc3 HR1 hr hlast
      go_wp2_with (fail)
      go_loopw [7, 8] (fun v i wr => ∃ k : Nat, k ≤ m ∧ i = .int .i64 k ∧ wr.ownsRow w3.heap.size 5 1 v k (((unpF m (nibr b)).take k).map eb) ∧ Chg [] w3 wr) (fun _ i _ => m - (intOf i).toNat)
      case atStart => exact ⟨0, by omega, rfl, World.ownsRow_nil _ _ _ _, Chg.refl _ _⟩
      case round =>
        obtain ⟨k, hk, rfl, hown, hc⟩ := hrel
        by_cases hlt : k < m
        · have hcl := hc.cell (HCL.out k hlt) (by simp)
          have hla := hc.cell HLAST.out (by simp)
          rw [HRG.out k hlt] at hcl
          have hx := HRB.out (m - k)
          have hy := HRB.out 0
          have hzt := HTS.out k hlt
          have hsz := hc.size
          by_cases hlast : k = m - 1
          · rw [if_pos hlast] at hzt
            have HZ1 := hid hzt
            have heq : ((k : Int) == (m : Int) - 1) = true := beq_iff_eq.2 (by omega)
            clear hzt hlast
            generalize (nibr b).getD (m - k) 0 = x at *
            generalize (nibr b).getD 0 0 = y at *
            have hfin : [Value.int .u8 (16 * (y : Int) + x)] = [UInt8.ofNat (16 * y + x)].map eb := by simp only [List.map_cons, List.map_nil, eb]; rw [toNat_ofNat (by omega)]; congr 2
            have HF := hid hfin
            clear hfin
            go_wp2_with (first
              | (at_builtin; refine appendN rfl _ _ 22 rfl w3.heap.size 5 1 (.int .u8 0) Try.underlying22 info_u8 rfl (by decide) 1 [_] rfl hown rfl rfl (by simp [Value.oneCell']) (by omega) (by omega) ?_; intro v' w' ho' hc'))
            go_roundw
            case rel =>
              refine ⟨k + 1, by omega, by go_num, ?_, chg_own hc hown (by omega) hc'⟩
              rw [HZ1.out, List.map_append, ← HF.out]
              exact ho'
            case measure => simp [intOf]; omega
          · rw [if_neg hlast] at hzt
            have HZ1 := hid hzt
            have hne : ((k : Int) == (m : Int) - 1) = false := beq_eq_false_iff_ne.2 (by omega)
            clear hlast hzt hla
            generalize (nibr b).getD (m - k) 0 = x at *
            have hfin : [Value.int .u8 (240 + (x : Int))] = [UInt8.ofNat (16 * 15 + x)].map eb := by simp only [List.map_cons, List.map_nil, eb]; rw [toNat_ofNat (by omega)]; congr 2
            have HF := hid hfin
            clear hfin
            go_wp2_with (first | (at_builtin; refine appendN rfl _ _ 22 rfl w3.heap.size 5 1 (.int .u8 0) Try.underlying22 info_u8 rfl (by decide) 1 [_] rfl hown rfl rfl (by simp [Value.oneCell']) (by omega) (by omega) ?_; intro v' w' ho' hc'))
            go_roundw
            case rel =>
              refine ⟨k + 1, by omega, by go_num, ?_, chg_own hc hown (by omega) hc'⟩
              rw [HZ1.out, List.map_append, ← HF.out]
              exact ho'
            case measure => simp [intOf]; omega
        · obtain rfl : k = m := by omega
          have HT : Hid (List.take k (unpF k (nibr b)) = unpF k (nibr b)) := List.take_of_length_le (by rw [HUL.out]; exact Nat.le_refl _)
          have HOWN := hid hown
          have HCW := hid hc
          clear hown hc
          go_wp2_with (fail)
          go_returns
          have h9 := HOWN.out
          rw [HT.out] at h9
          exact ⟨_, rfl, by rw [HUL.out]; exact own_base h9 HC3.out.size, HC3.out.trans HCW.out⟩
    · have HE := hid (unpackS_bad b n (.inr h2))
      rw [HE.out]
      have HN := hid (Bool.eq_false_iff.2 h2)
      have HN1 := hid h1
      rw [hL] at HN1
      clear h1 h2
      obtain ⟨va, vc, rfl⟩ := hv.shape hL
      clear hL
      go_enter Try.func21, Try.ntmps21
      go_wp2_with (fail)
      refine (rsize_any _ _).mono ?_
      rintro e w2 ⟨rfl, rfl⟩
      rw [HN1.out]
      go_wp2_with (fail)
      refine (rsize_any _ _).mono ?_
      rintro e w2 ⟨rfl, rfl⟩
      rw [HN.out]
      go_wp2_with (fail)
      go_returns
      exact ⟨_, rfl, World.ownsRow_nil _ _ _ _, Chg.refl _ _⟩
  · have HE := hid (unpackS_bad b n (.inl h1))
    rw [HE.out]
    have HN := hid (Bool.eq_false_iff.2 h1)
    rw [hL] at HN
    clear h1
    obtain ⟨va, vc, rfl⟩ := hv.shape hL
    clear hL
    go_enter Try.func21, Try.ntmps21
    go_wp2_with (fail)
    refine (rsize_any _ _).mono ?_
    rintro e w2 ⟨rfl, rfl⟩
    rw [HN.out]
    go_wp2_with (fail)
    go_returns
    exact ⟨_, rfl, World.ownsRow_nil _ _ _ _, Chg.refl _ _⟩

end Go.Proofs.Ytmmhokcdchhciaa

/- Zoned of the reference of layer 3. -/
import Derived.Test.YtmmhokcdchhciaaRefEnc
import Derived.Test.YtmmhokcdchhciaaSpecD
namespace Go.Proofs.Ytmmhokcdchhciaa
open Go.RowKit
set_option linter.unusedVariables false

theorem zonF_take_succ (neg : Bool) (m : Nat) (p : List Nat) (k : Nat) (h : k < m) :
    (zonF neg m p).take (k + 1) = (zonF neg m p).take k ++ [UInt8.ofNat (16 * (if k = m - 1 then sgn neg else 15) + p.getD (m - 1 - k) 0)] := by
  rw [List.take_succ_eq_append_getElem (by simpa [zonF] using h)]
  simp [zonF]
theorem zonF_length (neg : Bool) (m : Nat) (p : List Nat) : (zonF neg m p).length = m := by simp [zonF]

set_option maxHeartbeats 1000000 in
theorem rZoned_any (w : World) (neg : Bool) (s : ByteArray) (hs : s.size ≤ maxLen) (n : Int) :
    Calls Try.prog 40 #[.agg #[.bool neg, .string s], .int .i64 n] w fun e w' =>
      ∃ u, e = .returned (.tuple #[u, .bool (zonS neg s.data.toList n).2]) ∧ w'.ownsRow w.heap.size 5 1 u (zonS neg s.data.toList n).1.length ((zonS neg s.data.toList n).1.map eb) ∧ Chg [] w w' := by
  by_cases h1 : validS s.data.toList = true
  · by_cases h2 : okSize n = true
    · obtain ⟨m, rfl, hm1, hm2⟩ := ok_nat h2
      rw [zonS_eq neg s m h1 h2]
      have HV := hid h1
      have hvl := valsL_length s.data.toList
      rw [ba_len] at hvl
      have hsl := valid_digits h1
      have hs1 := hsl.1
      have hs2 := hsl.2.1
      clear hsl
      have HZT := hid (zonF_take_succ neg m (valsR s.data.toList))
      have HZL := hid (zonF_length neg m (valsR s.data.toList))
      have HRG : Hid (∀ i, i < m → (rightL (valsL s.data.toList) m).getD i 0 = (valsR s.data.toList).getD (m - 1 - i) 0) := fun i hi => by rw [valsL_rev]; exact rightL_getD _ _ _ hi
      have HRB : Hid (∀ i, (valsR s.data.toList).getD i 0 < 10) := fun i => by
        rw [List.getD_eq_getElem?_getD]
        rcases Nat.lt_or_ge i (valsR s.data.toList).length with hi | hi
        · rw [List.getElem?_eq_getElem hi]; exact valsR_lt h1 _ (List.getElem_mem _)
        · rw [List.getElem?_eq_none hi]; decide
      have HRL := hid (rightL_length (valsL s.data.toList) m)
      have HVL := hid hvl
      have HSG := hid (sgn_lt neg)
      clear hvl
      go_enter Try.func40, Try.ntmps40
      go_wp2_with (first
        | (go_at_call 31; refine (rvalid_any neg s hs _).mono ?_; rintro e w1 ⟨rfl, hch1⟩; rw [HV.out]; have hcc := two_cells (hch1.heap (al_new (o := .cells #[.bool neg, .string s] 26) rfl) (by simp)); have HB := hid (hch1.heap (al_new (o := .cells #[.bool neg, .string s] 26) rfl) (by simp)); have HC := hid ((Chg.alloc [] w _).trans hch1); clear hch1; obtain ⟨c0, c1⟩ := hcc)
        | (go_at_call 32; refine (rsize_any _ _).mono ?_; rintro e w2 ⟨rfl, rfl⟩)
        | (go_at_call 34; refine (values_any _ neg s HV.out).mono ?_; rintro e w2 ⟨u2, rfl, ho, hc'⟩; have HR2 := hid (ReadsV.ofn ho rfl); have HC2 := hid (HC.out.trans hc'); have HB2 := hid (hc'.heap HB.out (by simp)); clear ho hc')
        | (go_at_call 33; refine (right_any _ _ (valsL s.data.toList) m HR2.out (by rw [HVL.out]; omega) (by omega)).mono ?_; rintro e w3 ⟨u3, rfl, ho, hc'⟩; have HR3 := hid (ReadsV.ofn ho HRL.out); have HC3 := hid (HC2.out.trans hc'); have HB3 := hid (hc'.heap HB2.out (by simp)); clear ho hc'))
      rcases HR3.out.parts HRL.out with ⟨_, h0, _⟩ | ⟨bb, off, cap, rfl, _, hm4, hm5, HCL⟩
      · omega
      clear c0 c1 HR2 HR3 HC HB HB2 HC2
      go_loopw [7, 8] (fun v i wr => ∃ k : Nat, k ≤ m ∧ i = .int .i64 k ∧ wr.ownsRow w3.heap.size 5 1 v k (((zonF neg m (valsR s.data.toList)).take k).map eb) ∧ Chg [] w3 wr) (fun _ i _ => m - (intOf i).toNat)
      case atStart => exact ⟨0, by omega, rfl, World.ownsRow_nil _ _ _ _, Chg.refl _ _⟩
      case round =>
        obtain ⟨k, hk, rfl, hown, hc⟩ := hrel
        by_cases hlt : k < m
        · have hcl := hc.cell (HCL.out k hlt) (by simp)
          rw [HRG.out k hlt] at hcl
          have hx := HRB.out (m - 1 - k)
          have hzt := HZT.out k hlt
          generalize (valsR s.data.toList).getD (m - 1 - k) 0 = x at *
          have hsz := hc.size
          by_cases hlast : k = m - 1
          · rw [if_pos hlast] at hzt
            have HZ1 := hid hzt
            have heq : ((k : Int) == (m : Int) - 1) = true := beq_iff_eq.2 (by omega)
            have HBr := hid (hc.heap HB3.out (by simp))
            obtain ⟨c0, c1⟩ := two_cells HBr.out
            have HOWN := hid hown
            have HCW := hid hc
            have hsg := HSG.out
            have hfin : [Value.int .u8 (16 * ((sgn neg : Nat) : Int) + x)] = [UInt8.ofNat (16 * sgn neg + x)].map eb := by simp only [List.map_cons, List.map_nil, eb]; rw [toNat_ofNat (by omega)]; congr 2
            have HF := hid hfin
            clear hown hc hzt hlast hfin
            obtain ⟨sg, hsg2⟩ : ∃ sg, sgn neg = sg := ⟨_, rfl⟩
            rw [hsg2] at hsg HF HZ1
            replace hsg2 := hid hsg2
            go_wp2_with (first
              | (go_at_call 35; refine (rsign_any neg s _).mono ?_; rintro e w4 ⟨rfl, hc'⟩; rw [hsg2.out]; have HO4 := hid (own_keep HOWN.out hc' (by simp)); have HC4 := hid (HCW.out.trans hc'); have hcl4 := hc'.cell hcl (by simp); have hz4 := hc'.size; clear hc')
              | (at_builtin; refine appendN rfl _ _ 22 rfl w3.heap.size 5 1 (.int .u8 0) Try.underlying22 info_u8 rfl (by decide) 1 [_] rfl HO4.out rfl rfl (by simp [Value.oneCell']) (by omega) (by omega) ?_; intro v' w' ho' hc'))
            go_roundw
            case rel =>
              refine ⟨k + 1, by omega, by go_num, ?_, chg_own HC4.out HO4.out (by omega) hc'⟩
              rw [HZ1.out, List.map_append, ← HF.out]
              exact ho'
            case measure => simp [intOf]; omega
          · rw [if_neg hlast] at hzt
            have HZ1 := hid hzt
            have hne : ((k : Int) == (m : Int) - 1) = false := beq_eq_false_iff_ne.2 (by omega)
            have hfin : [Value.int .u8 (240 + (x : Int))] = [UInt8.ofNat (16 * 15 + x)].map eb := by simp only [List.map_cons, List.map_nil, eb]; rw [toNat_ofNat (by omega)]; congr 2
            have HF := hid hfin
            clear hlast hzt hfin
            go_wp2_with (first | (at_builtin; refine appendN rfl _ _ 22 rfl w3.heap.size 5 1 (.int .u8 0) Try.underlying22 info_u8 rfl (by decide) 1 [_] rfl hown rfl rfl (by simp [Value.oneCell']) (by omega) (by omega) ?_; intro v' w' ho' hc'))
            go_roundw
            case rel =>
              refine ⟨k + 1, by omega, by go_num, ?_, chg_own hc hown (by omega) hc'⟩
              rw [HZ1.out, List.map_append, ← HF.out]
              exact ho'
            case measure => simp [intOf]; omega
        · obtain rfl : k = m := by omega
          have HBr := hid (hc.heap HB3.out (by simp))
          obtain ⟨c0, c1⟩ := two_cells HBr.out
          have HT : Hid (List.take k (zonF neg k (valsR s.data.toList)) = zonF neg k (valsR s.data.toList)) := List.take_of_length_le (by rw [HZL.out]; exact Nat.le_refl _)
          have HOWN := hid hown
          have HCW := hid hc
          clear hown hc
          go_wp2_with (fail)
          go_quiet (fail)
          go_wp2_with (fail)
          go_returns
          have h9 := HOWN.out
          rw [HT.out] at h9
          exact ⟨_, ret_vb (by simp), by rw [HZL.out]; exact own_base h9 HC3.out.size, (HC3.out.trans HCW.out).drewN _⟩
    · have HE := hid (zonS_bad neg s.data.toList n (.inr h2))
      rw [HE.out]
      have HV := hid h1
      have HN := hid (Bool.eq_false_iff.2 h2)
      clear h1 h2
      go_enter Try.func40, Try.ntmps40
      go_wp2_with (first
        | (go_at_call 31; refine (rvalid_any neg s hs _).mono ?_; rintro e w1 ⟨rfl, hch1⟩; rw [HV.out]; have HC := hid ((Chg.alloc [] w _).trans hch1); clear hch1)
        | (go_at_call 32; refine (rsize_any _ _).mono ?_; rintro e w2 ⟨rfl, rfl⟩; rw [HN.out]))
      go_returns
      exact ⟨_, rfl, World.ownsRow_nil _ _ _ _, HC.out⟩
  · have HE := hid (zonS_bad neg s.data.toList n (.inl h1))
    rw [HE.out]
    have HV := hid (Bool.eq_false_iff.2 h1)
    clear h1
    go_enter Try.func40, Try.ntmps40
    go_wp2_with (first
        | (go_at_call 31; refine (rvalid_any neg s hs _).mono ?_; rintro e w1 ⟨rfl, hch1⟩; rw [HV.out]; have HC := hid ((Chg.alloc [] w _).trans hch1); clear hch1))
    go_returns
    exact ⟨_, rfl, World.ownsRow_nil _ _ _ _, HC.out⟩

end Go.Proofs.Ytmmhokcdchhciaa

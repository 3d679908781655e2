/- Encode of the reference of layer 3. -/
import Derived.Test.YtmmhokcdchhciaaDigits
import Derived.Test.YtmmhokcdchhciaaValid
import Derived.Test.YtmmhokcdchhciaaEncode
import Derived.Test.YtmmhokcdchhciaaLeaf
import Derived.Deep.DeepCutAuto
import Derived.Deep.RegionHeld3
namespace Go.Proofs.Ytmmhokcdchhciaa
open Go.RowKit
set_option linter.unusedVariables false

theorem ReadsV.ofn {w : World} {base e n : Nat} {v : Value} {l : List Nat} (h : w.ownsRow base e 1 v n (l.map en)) (hn : l.length = n) : ReadsV w v (l.map en) := by
  subst hn; exact ReadsV.of_own (by rw [List.length_map]; exact h)

theorem rightL_mem (l : List Nat) (n q : Nat) (h : q ∈ rightL l n) : q = 0 ∨ q ∈ l := by
  rcases List.mem_append.1 h with h | h
  · exact .inl (List.eq_of_mem_replicate h)
  · exact .inr (List.mem_of_mem_drop h)

theorem encS_pairs (neg : Bool) (s : ByteArray) (m : Nat) (h : validS s.data.toList = true) (h2 : okSize m = true) :
    encS neg s.data.toList m = (pairs (rightL (valsL s.data.toList) (2 * m - 1) ++ [sgn neg]), decide (2 * (m : Int) - 1 < s.size)) := by
  have h1 : 1 ≤ m := by unfold okSize at h2; simp at h2; omega
  unfold encS
  rw [h, h2, valsL_rev, pairs_right _ _ _ h1, ba_len]
  rfl

set_option maxHeartbeats 1000000 in
theorem rEncode_any (w : World) (neg : Bool) (s : ByteArray) (hs : s.size ≤ maxLen) (n : Int) :
    Calls Try.prog 11 #[.agg #[.bool neg, .string s], .int .i64 n] w fun e w' =>
      ∃ u, e = .returned (.tuple #[u, .bool (encS neg s.data.toList n).2]) ∧ w'.ownsRow w.heap.size 5 1 u (encS neg s.data.toList n).1.length ((encS neg s.data.toList n).1.map eb) ∧ Chg [] w w' := by
  by_cases h1 : validS s.data.toList = true
  · by_cases h2 : okSize n = true
    · obtain ⟨m, rfl, hm1, hm2⟩ := ok_nat h2
      rw [encS_pairs neg s m h1 h2]
      have HV := hid h1
      have hvl := valsL_length s.data.toList
      rw [ba_len] at hvl
      have hsl := valid_digits h1
      have hs1 := hsl.1
      have hs2 := hsl.2.1
      clear hsl
      have hrl := rightL_length (valsL s.data.toList) (2 * m - 1)
      have hq : ∀ q ∈ rightL (valsL s.data.toList) (2 * m - 1) ++ [sgn neg], q < 16 := by
        intro q hq
        rcases List.mem_append.1 hq with h | h
        · rcases rightL_mem _ _ _ h with rfl | h
          · decide
          · rw [valsL_rev] at h
            have := valsR_lt h1 q (List.mem_reverse.1 h)
            omega
        · rw [List.mem_singleton.1 h]; exact sgn_lt neg
      have HQ := hid hq
      clear hq
      have hpl := pairs_length m (rightL (valsL s.data.toList) (2 * m - 1) ++ [sgn neg]) (by rw [List.length_append, hrl]; simp; omega)
      have HPL := hid hpl
      have HRL := hid hrl
      have HVL := hid hvl
      clear hpl hrl hvl
      go_enter Try.func11, Try.ntmps11
      go_upto_region 3 with (first
        | (go_at_call 31; refine (rvalid_any neg s hs _).mono ?_; rintro e w1 ⟨rfl, hch1⟩; rw [HV.out]; have hcc := two_cells (hch1.heap (al_new (o := .cells #[.bool neg, .string s] 26) rfl) (by simp)); have HB := hid (hch1.heap (al_new (o := .cells #[.bool neg, .string s] 26) rfl) (by simp)); have HC := hid ((Chg.alloc [] w _).trans hch1); clear hch1; obtain ⟨c0, c1⟩ := hcc)
        | (go_at_call 32; refine (rsize_any _ _).mono ?_; rintro e w2 ⟨rfl, rfl⟩))
      go_cut [6] (fun u W => ReadsV W u ((rightL (valsL s.data.toList) (2 * m - 1) ++ [sgn neg]).map en) ∧ Chg [] w W ∧ W.heap[w.heap.size]? = some (.cells #[.bool neg, .string s] 26 (0, 0)))
      case first =>
        have e1 : IntKind.i64.wrap (2 * (m : Int)) = 2 * (m : Int) := IntWalk.i64_in _ (by omega)
        have e2 : IntKind.i64.wrap (2 * (m : Int) - 1) = ((2 * m - 1 : Nat) : Int) := by rw [IntWalk.i64_in _ (by omega)]; omega
        go_region_held3 (fun w' => w'.cell? ⟨w.heap.size, 0, none⟩ = some (.bool neg) ∧ w'.cell? ⟨w.heap.size, 1, none⟩ = some (.string s))
          (first
            | go_keep
            | (go_split_ands
               refine ⟨?_, ?_⟩ <;> exact hc'.cell (by assumption) (by first | (simp; done) | exact HNB.out)))
          (first
            | (go_at_call 34; refine (values_any _ neg s HV.out).mono ?_; rintro e w2 ⟨u2, rfl, ho, hc'⟩; have HR2 := hid (ReadsV.ofn ho rfl); have HC2 := hid ((HC.out.trans (Chg.drew _ _)).trans hc'); have HB2 := hid (hc'.heap (show w1.drew.heap[w.heap.size]? = _ from HB.out) (by simp)); have HZ2 : Hid (w1.heap.size ≤ w2.heap.size) := hc'.size; clear ho)
            | (go_at_call 33; refine (right_any _ _ (valsL s.data.toList) (2 * m - 1) HR2.out (by rw [HVL.out]; omega) (by omega)).mono ?_; rintro e w3 ⟨u3, rfl, ho, hc'⟩; have HO3 := hid ho; have HC3 := hid (HC2.out.trans hc'); have HB3 := hid (hc'.heap HB2.out (by simp)); have HZ3 := hid hc'.size; clear ho)
            | (go_at_call 35; refine (rsign_any neg s _).mono ?_; rintro e w4 ⟨rfl, hc'⟩; have HO4 := hid (own_keep HO3.out hc' (by simp)); have HNB : Hid (¬ w.heap.size ∈ own u3) := (fun e => by have h5 := own_ge HO3.out _ e; have h6 := lt_of_block HB.out; have h7 := HZ2.out; omega); have HC4 := hid (HC3.out.trans hc'); have HC4b := hid (hc'.heap HB3.out (by simp)))
            | (refine stepN rfl _ _ 49 rfl _ 3 8 (.int .i64 0) Try.underlying49 info_int rfl (by decide) 1 [en (sgn neg)] rfl (by decide) (HO4.out.alloc _) _ (heap_alloc_new _ _) rfl rfl (by simp [Value.oneCell', en]) (by omega) (by have := HZ3.out; have := hc'.size; simp; omega) ?_; intro v' w' ho' hc'))
        go_wp2_with (fail)
        go_meet
        exact ⟨ReadsV.ofn (by rw [List.map_append]; exact ho') (by rw [List.length_append, HRL.out]; rfl), HC4.out.then ((Chg.alloc _ _ _).trans hc') (fun i hi hlt => by have h5 := own_ge HO3.out i hi; have h6 := HC2.out.size; omega), ((Chg.alloc _ _ _).trans hc').heap (HC4b.out) HNB.out⟩
      case rest =>
        obtain ⟨hr, hc, hb⟩ := hcut
        obtain ⟨d0, d1⟩ := two_cells hb
        have HR := hid hr
        have HCC := hid hc
        clear hr hc hb c0 c1 HB HC
        have e1 : IntKind.i64.wrap (2 * (m : Int)) = 2 * (m : Int) := IntWalk.i64_in _ (by omega)
        have e2 : IntKind.i64.wrap (2 * (m : Int) - 1) = 2 * (m : Int) - 1 := by rw [IntWalk.i64_in _ (by omega)]
        go_wp2_with (fail)
        go_region_held3 (fun w' => w'.cell? ⟨w.heap.size, 1, none⟩ = some (.string s))
          (first
            | go_keep
            | exact hc'.cell (by assumption) (by simp))
          (first
            | (go_at_call 36; refine (Bytes_any _ _ _ m (HR.out.keep (Chg.drew [] _) (by simp)) (by rw [List.length_append, HRL.out]; simp; omega) hm1 (by omega) HQ.out).mono ?_; rintro e w2 ⟨u2, rfl, ho, hc'⟩; have HO := hid ho; have HC2 := hid ((HCC.out.trans (Chg.drew _ _)).trans hc'); clear ho))
        all_goals go_wp2_with (fail)
        all_goals go_returns
        all_goals exact ⟨_, rfl, by rw [HPL.out]; exact own_base HO.out HCC.out.size, HC2.out⟩
    · have HE := hid (encS_bad neg s.data.toList n (.inr h2))
      rw [HE.out]
      have HV := hid h1
      have HN := hid (Bool.eq_false_iff.2 h2)
      clear h1 h2
      go_enter Try.func11, Try.ntmps11
      go_wp2_with (first
        | (go_at_call 31; refine (rvalid_any neg s hs _).mono ?_; rintro e w1 ⟨rfl, hch1⟩; rw [HV.out]; have HC := hid ((Chg.alloc [] w _).trans hch1); clear hch1)
        | (go_at_call 32; refine (rsize_any _ _).mono ?_; rintro e w2 ⟨rfl, rfl⟩; rw [HN.out]))
      go_returns
      exact ⟨_, rfl, World.ownsRow_nil _ _ _ _, HC.out⟩
  · have HE := hid (encS_bad neg s.data.toList n (.inl h1))
    rw [HE.out]
    have HV := hid (Bool.eq_false_iff.2 h1)
    clear h1
    go_enter Try.func11, Try.ntmps11
    go_wp2_with (first
        | (go_at_call 31; refine (rvalid_any neg s hs _).mono ?_; rintro e w1 ⟨rfl, hch1⟩; rw [HV.out]; have HC := hid ((Chg.alloc [] w _).trans hch1); clear hch1))
    go_returns
    exact ⟨_, rfl, World.ownsRow_nil _ _ _ _, HC.out⟩

end Go.Proofs.Ytmmhokcdchhciaa

/- Pack of the reference of layer 3. -/
import Derived.Test.YtmmhokcdchhciaaRefEnc
import Derived.Test.YtmmhokcdchhciaaPack
namespace Go.Proofs.Ytmmhokcdchhciaa
open Go.RowKit
set_option linter.unusedVariables false

/-- the right halves, from left to right -/
def rhL (b : Bs) : List Nat := b.map (·.toNat % 16)
theorem rhL_length (b : Bs) : (rhL b).length = b.length := by simp [rhL]
theorem rhL_take_succ (b : Bs) (k : Nat) (h : k < b.length) : (rhL b).take (k + 1) = (rhL b).take k ++ [bN b k % 16] := by
  rw [List.take_succ_eq_append_getElem (by rw [rhL_length]; exact h), bN_get _ _ h]
  simp [rhL]
theorem packS_pairs (b : Bs) (m : Nat) (h1 : okSize b.length = true) (h2 : okSize m = true) : packS b m = pairs (rightL (rhL b) (2 * m - 1) ++ [bN b (b.length - 1) / 16]) := by
  have h : 1 ≤ m := by unfold okSize at h2; simp at h2; omega
  unfold packS
  rw [h1, h2, Int.toNat_natCast, show rhL b = (b.reverse.map (·.toNat % 16)).reverse from by simp [rhL], pairs_right _ _ _ h, last_bN]
  rfl

set_option maxHeartbeats 1000000 in
theorem rPack_any (w : World) (v : Value) (b : Go.Proofs.Ytmmhokcdchhciaa.Bs) (n : Int) (hv : Reads w v b) :
    Calls Try.prog 19 #[v, .int .i64 n] w fun e w' =>
      ∃ r, e = .returned r ∧ w'.ownsRow w.heap.size 5 1 r (packS b n).length ((packS b n).map eb) ∧ Chg [] w w' := by
  obtain ⟨L, hL⟩ : ∃ L, b.length = L := ⟨_, rfl⟩
  by_cases h1 : okSize b.length = true
  · by_cases h2 : okSize n = true
    · obtain ⟨m, rfl, hm1, hm2⟩ := ok_nat h2
      rw [packS_pairs b m h1 h2]
      rw [hL] at h1 ⊢
      obtain ⟨q1, q2⟩ : 1 ≤ L ∧ L ≤ 16 := by unfold okSize at h1; simp at h1; omega
      rcases hv.parts hL with ⟨_, h0, _⟩ | ⟨bb, off, cap, rfl, _, hm4, hm5, HCL⟩
      · omega
      have hbb := block_lt_of_cell (HCL.out 0 (by omega))
      simp only at hbb
      have HTS := hid (rhL_take_succ b)
      have HRH := hid (rhL_length b)
      rw [hL] at HTS HRH
      have hq : ∀ q ∈ rightL (rhL b) (2 * m - 1) ++ [bN b (L - 1) / 16], q < 16 := by
        intro q hq
        rcases List.mem_append.1 hq with h | h
        · rcases rightL_mem _ _ _ h with rfl | h
          · decide
          · simp only [rhL, List.mem_map] at h
            obtain ⟨_, _, rfl⟩ := h
            omega
        · rw [List.mem_singleton.1 h]; have := bN_lt b (L - 1); omega
      have HQ := hid hq
      have HRL := hid (rightL_length (rhL b) (2 * m - 1))
      have HPL := hid (pairs_length m (rightL (rhL b) (2 * m - 1) ++ [bN b (L - 1) / 16]) (by rw [List.length_append, HRL.out]; simp; omega))
      clear hv hL hq
      obtain ⟨x, hxl⟩ : ∃ x, bN b (L - 1) = x := ⟨_, rfl⟩
      have hx := bN_lt b (L - 1)
      have HXL := hid hxl
      rw [hxl] at hx HQ HPL ⊢
      clear hxl
      go_enter Try.func19, Try.ntmps19
      go_wp2_with (first
        | (go_at_call 32; refine (rsize_any _ _).mono ?_; rintro e w2 ⟨rfl, rfl⟩))
      go_loopw [5, 6] (fun v i wr => ∃ k : Nat, k ≤ L ∧ i = .int .i64 k ∧ wr.ownsRow w.heap.size 3 1 v k (((rhL b).take k).map en) ∧ Chg [] w wr) (fun _ i _ => L - (intOf i).toNat)
      case atStart => exact ⟨0, by omega, rfl, World.ownsRow_nil _ _ _ _, Chg.refl _ _⟩
      case round =>
        obtain ⟨k, hk, rfl, hown, hc⟩ := hrel
        have hsz := hc.size
        by_cases hlt : k < L
        · have hcl := hc.cell (HCL.out k hlt) (by simp)
          have hy := bN_lt b k
          have HT2 := hid (HTS.out k hlt)
          have HF := hid (show [Value.int .i64 ((bN b k : Int) % 16)] = [bN b k % 16].map en from rfl)
          clear HXL
          generalize bN b k = y at *
          go_wp2_with (first | (at_builtin; refine appendN rfl _ _ 49 rfl w.heap.size 3 8 (.int .i64 0) Try.underlying49 info_int rfl (by decide) 1 [_] rfl hown rfl rfl (by simp [Value.oneCell']) (by omega) (by omega) ?_; intro v' w' ho' hc'))
          go_roundw
          case rel =>
            refine ⟨k + 1, by omega, by go_num, ?_, chg_own hc hown (by omega) hc'⟩
            rw [HT2.out, List.map_append, ← HF.out]
            exact ho'
          case measure => simp [intOf]; omega
        · obtain rfl : k = L := by omega
          have hcl := hc.cell (HCL.out (k - 1) (by omega)) (by simp)
          rw [HXL.out] at hcl
          have hr := ReadsV.ofn hown (by rw [List.length_take, HRH.out]; omega)
          rw [List.take_of_length_le (by rw [HRH.out]; exact Nat.le_refl _)] at hr
          have HR := hid hr
          have HC := hid hc
          clear hown hc hr
          have e1 : IntKind.i64.wrap (2 * (m : Int)) = 2 * (m : Int) := IntWalk.i64_in _ (by omega)
          have e2 : IntKind.i64.wrap (2 * (m : Int) - 1) = ((2 * m - 1 : Nat) : Int) := by rw [IntWalk.i64_in _ (by omega)]; omega
          have e3 : IntKind.i64.wrap ((k : Int) - 1) = (k : Int) - 1 := IntWalk.i64_in _ (by omega)
          have e4 : IntKind.i64.wrap (x : Int) = (x : Int) := IntWalk.i64_in _ (by omega)
          have e5 : IntKind.i64.wrap ((x : Int).tdiv 16) = ((x / 16 : Nat) : Int) := by rw [IntWalk.i64_quo _ _ (by omega)]; omega
          have e6 : IntKind.i64.wrap ((x : Int) / 16) = ((x / 16 : Nat) : Int) := by rw [IntWalk.i64_in _ (by omega)]; omega
          have e7 : (0 : Int) ≤ (k : Int) - 1 := by omega
          have e8 : ((k : Int) - 1).toNat = k - 1 := by omega
          have e9 : (k : Int) - 1 < k := by omega
          have e10 : (1 : Int) ≤ (k : Int) := by omega
          have e11 : 0 < k := by omega
          have e12 : 1 ≤ k := by omega
          go_wp2_with (fail)
          go_region_held3 (fun w' => w'.cell? ⟨bb, off + (k - 1), none⟩ = some (.int .u8 (x : Int)))
            (first
              | go_keep
              | exact hc'.cell (by assumption) (by first | (simp; done) | exact HNB.out))
            (first
              | (go_at_call 33; refine (right_any _ _ (rhL b) (2 * m - 1) (HR.out.keep (Chg.drew [] _) (by simp)) (by rw [HRH.out]; omega) (by omega)).mono ?_; rintro e w3 ⟨u3, rfl, ho, hc'⟩; have HO3 := hid (own_base ho (show wr.heap.size ≤ _ from by simp)); have HC3 := hid ((HC.out.trans (Chg.drew _ _)).trans hc'); have HZ3 := hid (Nat.le_trans (show wr.heap.size ≤ _ from by simp) hc'.size); clear ho)
              | (go_at_call 33; refine (right_any _ _ (rhL b) (2 * m - 1) (HR.out.keep ((Chg.alloc [] _ _).trans (Chg.drew [] _)) (by simp)) (by rw [HRH.out]; omega) (by omega)).mono ?_; rintro e w3 ⟨u3, rfl, ho, hc'⟩; have HO3 := hid (own_base ho (show wr.heap.size ≤ _ from by simp)); have HC3 := hid ((HC.out.trans ((Chg.alloc [] _ _).trans (Chg.drew _ _))).trans hc'); have HZ3 := hid (Nat.le_trans (show wr.heap.size ≤ _ from by simp) hc'.size); have HBK := hid (hc'.heap (show (wr.alloc (.cells #[.int .i64 ((x / 16 : Nat) : Int)] 3)).drew.heap[wr.heap.size]? = _ from heap_alloc_new wr _) (by simp)); clear ho)
              | (have HNB : Hid (¬ bb ∈ own u3) := (fun e => by have h5 := own_ge HO3.out _ e; omega); refine stepN rfl _ _ 49 rfl _ 3 8 (.int .i64 0) Try.underlying49 info_int rfl (by decide) 1 [en (x / 16)] rfl (by decide) (HO3.out.alloc _) _ (heap_alloc_new _ _) rfl rfl (by simp [Value.oneCell', en]) (by omega) (by have := HZ3.out; simp; omega) ?_; intro v' w' ho' hc'; have HR4 := hid (ReadsV.ofn (l := rightL (rhL b) (2 * m - 1) ++ [x / 16]) (by rw [List.map_append]; exact ho') (by rw [List.length_append, HRL.out]; rfl)); have HC4 := hid (HC3.out.then ((Chg.alloc _ _ _).trans hc') (fun i hi hlt => by have h5 := own_ge HO3.out i hi; omega)); clear ho')
              | (have HNB : Hid (¬ bb ∈ own u3) := (fun e => by have h5 := own_ge HO3.out _ e; omega); refine stepN rfl _ _ 49 rfl _ 3 8 (.int .i64 0) Try.underlying49 info_int rfl (by decide) 1 [en (x / 16)] rfl (by decide) HO3.out _ HBK.out rfl rfl (by simp [Value.oneCell', en]) (by omega) HZ3.out ?_; intro v' w' ho' hc'; have HR4 := hid (ReadsV.ofn (l := rightL (rhL b) (2 * m - 1) ++ [x / 16]) (by rw [List.map_append]; exact ho') (by rw [List.length_append, HRL.out]; rfl)); have HC4 := hid (HC3.out.then hc' (fun i hi hlt => by have h5 := own_ge HO3.out i hi; omega)); clear ho')
              | (go_at_call 36; refine (Bytes_any _ _ _ m HR4.out (by rw [List.length_append, HRL.out]; simp; omega) hm1 (by omega) HQ.out).mono ?_; rintro e w5 ⟨u5, rfl, ho, hc'⟩; have HO5 := hid ho; have HC5 := hid (HC4.out.trans hc'); clear ho))
          all_goals go_wp2_with (fail)
          all_goals go_returns
          all_goals exact ⟨_, rfl, by rw [HPL.out]; exact own_base HO5.out HC4.out.size, HC5.out⟩
    · have HE := hid (packS_bad b n (.inr h2))
      rw [HE.out]
      have HN := hid (Bool.eq_false_iff.2 h2)
      have HN1 := hid h1
      rw [hL] at HN1
      clear h1 h2
      obtain ⟨va, vc, rfl⟩ := hv.shape hL
      clear hL
      go_enter Try.func19, Try.ntmps19
      go_wp2_with (fail)
      refine (rsize_any _ _).mono ?_
      rintro e w2 ⟨rfl, rfl⟩
      rw [HN1.out]
      go_wp2_with (fail)
      refine (rsize_any _ _).mono ?_
      rintro e w2 ⟨rfl, rfl⟩
      rw [HN.out]
      go_wp2_with (fail)
      go_returns
      exact ⟨_, rfl, World.ownsRow_nil _ _ _ _, Chg.refl _ _⟩
  · have HE := hid (packS_bad b n (.inl h1))
    rw [HE.out]
    have HN := hid (Bool.eq_false_iff.2 h1)
    rw [hL] at HN
    clear h1
    obtain ⟨va, vc, rfl⟩ := hv.shape hL
    clear hL
    go_enter Try.func19, Try.ntmps19
    go_wp2_with (fail)
    refine (rsize_any _ _).mono ?_
    rintro e w2 ⟨rfl, rfl⟩
    rw [HN.out]
    go_wp2_with (fail)
    go_returns
    exact ⟨_, rfl, World.ownsRow_nil _ _ _ _, Chg.refl _ _⟩

end Go.Proofs.Ytmmhokcdchhciaa

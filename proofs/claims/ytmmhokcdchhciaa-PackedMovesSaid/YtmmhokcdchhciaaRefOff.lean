/- Offset of the reference of layer 3. -/
import Derived.Test.YtmmhokcdchhciaaRefEnc
import Derived.Test.YtmmhokcdchhciaaOffset
namespace Go.Proofs.Ytmmhokcdchhciaa
open Go.RowKit
set_option linter.unusedVariables false

theorem offS_pairs (dst src : Bs) (h1 : okSize dst.length = true) (h2 : okSize src.length = true) :
    offS dst src = pairs (rightL (nibL src) (2 * dst.length - 1) ++ [bN dst (dst.length - 1) % 16]) := by
  have h : 1 ≤ dst.length := by unfold okSize at h1; simp at h1; omega
  rw [offS_eq dst src h1 h2, nibL_rev, pairs_right _ _ _ h]

set_option maxHeartbeats 1000000 in
theorem rOffset_any (w : World) (v u : Value) (dst src : Go.Proofs.Ytmmhokcdchhciaa.Bs) (hv : Reads w v dst) (hu : Reads w u src) :
    Calls Try.prog 23 #[v, u] w fun e w' =>
      ∃ r, e = .returned r ∧ w'.ownsRow w.heap.size 5 1 r (offS dst src).length ((offS dst src).map eb) ∧ Chg [] w w' := by
  obtain ⟨L, hL⟩ : ∃ L, dst.length = L := ⟨_, rfl⟩
  obtain ⟨M, hM⟩ : ∃ M, src.length = M := ⟨_, rfl⟩
  by_cases h1 : okSize dst.length = true
  · by_cases h2 : okSize src.length = true
    · rw [offS_pairs dst src h1 h2]
      rw [hL] at h1 ⊢
      rw [hM] at h2
      obtain ⟨q1, q2⟩ : 1 ≤ L ∧ L ≤ 16 := by unfold okSize at h1; simp at h1; omega
      obtain ⟨q3, q4⟩ : 1 ≤ M ∧ M ≤ 16 := by unfold okSize at h2; simp at h2; omega
      rcases hv.parts hL with ⟨_, h0, _⟩ | ⟨bb, off, cap, rfl, _, hm4, hm5, HCL⟩
      · omega
      obtain ⟨ua, uc, rfl⟩ := hu.shape hM
      have hx := bN_lt dst (L - 1)
      have HU := hid hu
      have HM := hid hM
      have hcl := HCL.out (L - 1) (by omega)
      have HNL := hid (nibL_length src)
      have hq : ∀ q ∈ rightL (nibL src) (2 * L - 1) ++ [bN dst (L - 1) % 16], q < 16 := by
        intro q hq
        rcases List.mem_append.1 hq with h | h
        · rcases rightL_mem _ _ _ h with rfl | h
          · decide
          · rw [nibL_rev] at h
            exact nibr_lt src q (List.mem_reverse.1 h)
        · rw [List.mem_singleton.1 h]; omega
      have HQ := hid hq
      have HRL := hid (rightL_length (nibL src) (2 * L - 1))
      have HPL := hid (pairs_length L (rightL (nibL src) (2 * L - 1) ++ [bN dst (L - 1) % 16]) (by rw [List.length_append, HRL.out]; simp; omega))
      clear hv hu hL hM hq
      generalize bN dst (L - 1) = x at *
      have e2 : wrap64 (2 * (L : Int) - 1) = ((2 * L - 1 : Nat) : Int) := by unfold wrap64; omega
      have e3 : 2 * (L : Int) - 1 = ((2 * L - 1 : Nat) : Int) := by omega
      have E3 := hid e3
      clear e2 e3
      go_enter Try.func23, Try.ntmps23
      go_wp2_with (first
        | (go_at_call 32; refine (rsize_any _ _).mono ?_; rintro e w2 ⟨rfl, rfl⟩)
        | (go_at_call 44; refine (Digits_any _ _ src M HU.out HM.out (by omega)).mono ?_; rintro e w2 ⟨u2, rfl, ho, hc'⟩; have HR2 := hid (ReadsV.ofn ho (by rw [HNL.out, HM.out])); have HC2 := hid hc'; clear ho hc'))
      rw [E3.out]
      refine (right_any _ _ (nibL src) (2 * L - 1) HR2.out (by rw [HNL.out, HM.out]; omega) (by omega)).mono ?_
      rintro e w3 ⟨u3, rfl, ho, hc'⟩
      have HO3 := hid ho
      have HC3 := hid (HC2.out.trans hc')
      have hz3 := hc'.size
      clear ho hc'
      go_wp2_with (first
        | (at_builtin; refine appendN rfl _ _ 49 rfl w2.heap.size 3 8 (.int .i64 0) Try.underlying49 info_int rfl (by decide) 1 [en (x % 16)] rfl HO3.out rfl rfl (by simp [Value.oneCell', en]) (by omega) (by omega) ?_; intro v' w' ho' hc'; have HR4 := hid (ReadsV.ofn (l := rightL (nibL src) (2 * L - 1) ++ [x % 16]) (by rw [List.map_append]; exact ho') (by rw [List.length_append, HRL.out]; rfl)); have HC4 := hid (HC3.out.then hc' (fun i hi hlt => by have h5 := own_ge HO3.out i hi; have h6 := HC2.out.size; omega)); clear ho' hc')
        | (go_at_call 36; refine (Bytes_any _ _ _ L HR4.out (by rw [List.length_append, HRL.out]; simp; omega) q1 (by omega) HQ.out).mono ?_; rintro e w5 ⟨u5, rfl, ho, hc'⟩; have HO5 := hid ho; have HC5 := hid (HC4.out.trans hc'); clear ho hc'))
      go_returns
      exact ⟨_, rfl, by rw [HPL.out]; exact own_base HO5.out HC4.out.size, HC5.out⟩
    · have HE := hid (offS_bad dst src (.inr h2))
      rw [HE.out]
      have HN := hid (Bool.eq_false_iff.2 h2)
      have HN1 := hid h1
      rw [hL] at HN1
      rw [hM] at HN
      clear h1 h2
      obtain ⟨va, vc, rfl⟩ := hv.shape hL
      obtain ⟨ua, uc, rfl⟩ := hu.shape hM
      clear hL hM
      go_enter Try.func23, Try.ntmps23
      go_wp2_with (fail)
      refine (rsize_any _ _).mono ?_
      rintro e w2 ⟨rfl, rfl⟩
      rw [HN1.out]
      go_wp2_with (fail)
      refine (rsize_any _ _).mono ?_
      rintro e w2 ⟨rfl, rfl⟩
      rw [HN.out]
      go_wp2_with (fail)
      go_returns
      exact ⟨_, rfl, World.ownsRow_nil _ _ _ _, Chg.refl _ _⟩
  · have HE := hid (offS_bad dst src (.inl h1))
    rw [HE.out]
    have HN := hid (Bool.eq_false_iff.2 h1)
    rw [hL] at HN
    clear h1
    obtain ⟨va, vc, rfl⟩ := hv.shape hL
    obtain ⟨ua, uc, rfl⟩ := hu.shape hM
    clear hL hM
    go_enter Try.func23, Try.ntmps23
    go_wp2_with (fail)
    refine (rsize_any _ _).mono ?_
    rintro e w2 ⟨rfl, rfl⟩
    rw [HN.out]
    go_wp2_with (fail)
    go_returns
    exact ⟨_, rfl, World.ownsRow_nil _ _ _ _, Chg.refl _ _⟩

end Go.Proofs.Ytmmhokcdchhciaa

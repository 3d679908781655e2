/- two of the reference of layer 4. -/
import Derived.Test.YtmklkfogddppmaaDoorKDRefE
namespace Go.Proofs.YtmklkfogddppmaaDoor
open Go.RowKit Go.Shelf
set_option linter.unusedVariables false
set_option linter.unusedSimpArgs false

set_option maxRecDepth 100000 in
set_option maxHeartbeats 2000000 in
theorem two_size (w : World) (va vb : Value) (a b : Bs) (hva : Reads w va a) (hvb : Reads w vb b) (h : (okSize a.length && okSize b.length) = false) :
    Calls Tryd.prog 42 #[va, vb] w fun e w' => e = .returned (.tuple #[.agg #[.bool false, .slice none 0 0], .agg #[.bool false, .slice none 0 0], .int .i64 6]) ∧ Chg [] w w' := by
  obtain ⟨pa, ca, rfl⟩ := hva.shape (L := a.length) rfl
  obtain ⟨pb, cb, rfl⟩ := hvb.shape (L := b.length) rfl
  clear hva hvb
  obtain ⟨y0, y1⟩ := two_cells (al_old (o := .cells #[.bool false, .slice none 0 0] 54) (heap_alloc_new w (.cells #[.bool false, .slice none 0 0] 54)))
  obtain ⟨z0, z1⟩ := two_cells (al_new (w := w.alloc (.cells #[.bool false, .slice none 0 0] 54)) (o := .cells #[.bool false, .slice none 0 0] 54) (k := w.heap.size + 1) (by simp))
  cases h1 : okSize a.length
  · clear h
    go_enter Tryd.func42, Tryd.ntmps42
    go_wp2_with (go_at_call 55; refine (r4size_any _ _).mono ?_; rintro e w2 ⟨rfl, rfl⟩; rw [h1])
    refine ⟨by simp, ?_⟩
    refine ⟨.tuple #[.agg #[.bool false, .slice none 0 0], .agg #[.bool false, .slice none 0 0], .int .i64 6], ?_, rfl, (Chg.alloc _ _ _).trans (Chg.alloc _ _ _)⟩
    simp [results, Tryd.f42, go_sem]
  · have h2 : okSize b.length = false := by rw [h1] at h; simpa using h
    clear h
    go_enter Tryd.func42, Tryd.ntmps42
    go_wp2_with (go_at_call 55; refine (r4size_any _ _).mono ?_; rintro e w2 ⟨rfl, rfl⟩; first | rw [h1] | rw [h2])
    refine ⟨by simp, ?_⟩
    refine ⟨.tuple #[.agg #[.bool false, .slice none 0 0], .agg #[.bool false, .slice none 0 0], .int .i64 6], ?_, rfl, (Chg.alloc _ _ _).trans (Chg.alloc _ _ _)⟩
    simp [results, Tryd.f42, go_sem]

set_option maxRecDepth 100000 in
set_option maxHeartbeats 2000000 in
theorem two_read (w : World) (va vb : Value) (a b : Bs) (hva : Reads w va a) (hvb : Reads w vb b) (h1 : okSize a.length = true) (h2 : okSize b.length = true) :
    Calls Tryd.prog 42 #[va, vb] w fun e w' => ∃ u1 u2, e = .returned (.tuple #[.agg #[.bool (fok a && fok b && rn a), u1], .agg #[.bool (fok a && fok b && rn b), u2], .int .i64 (if fok a && fok b then 0 else 7)]) ∧
      Dg w' u1 (if fok a && fok b then rv a else 0) ∧ Dg w' u2 (if fok a && fok b then rv b else 0) ∧ Chg [] w w' := by
  have r1 := fun (W : World) (hc : Chg [] w W) => Of_any W va a (hva.keep hc (by simp))
  have r2 := fun (W : World) (hc : Chg [] w W) => Of_any W vb b (hvb.keep hc (by simp))
  obtain ⟨pa, ca, rfl⟩ := hva.shape (L := a.length) rfl
  obtain ⟨pb, cb, rfl⟩ := hvb.shape (L := b.length) rfl
  clear hva hvb
  have HR1 := hid r1
  have HR2 := hid r2
  clear r1 r2
  generalize rn a = na at *
  generalize rv a = xa at *
  generalize rn b = nb at *
  generalize rv b = xb at *
  generalize fok a = fa at *
  generalize fok b = fb at *
  go_enter Tryd.func42, Tryd.ntmps42
  go_upto_region 3 with (go_at_call 55; refine (r4size_any _ _).mono ?_; rintro e w2 ⟨rfl, rfl⟩; first | rw [h1] | rw [h2])
  have HW1 := hid (al_old (o := .cells #[.bool false, .slice none 0 0] 54) (heap_alloc_new w (.cells #[.bool false, .slice none 0 0] 54)))
  have HW2 := hid (al_new (w := w.alloc (.cells #[.bool false, .slice none 0 0] 54)) (o := .cells #[.bool false, .slice none 0 0] 54) (k := w.heap.size + 1) (by simp))
  have hc0 := (Chg.alloc [] w (.cells #[.bool false, .slice none 0 0] 54)).trans (Chg.alloc [] _ (.cells #[.bool false, .slice none 0 0] 54))
  have HLT := hid (show w.heap.size + 1 < ((w.alloc (.cells #[.bool false, .slice none 0 0] 54)).alloc (.cells #[.bool false, .slice none 0 0] 54)).heap.size from by simp)
  generalize (w.alloc (.cells #[.bool false, .slice none 0 0] 54)).alloc (.cells #[.bool false, .slice none 0 0] 54) = W0 at *
  go_upto_region 4 with (go_at_call 56; refine (HR1.out _ hc0).mono ?_; rintro e w2 ⟨u1, rfl, hd1, hc1⟩; have HD1 := hid hd1; obtain ⟨ua, uL, uc, rfl, -, -, -⟩ := hd1.shape; clear hd1)
  have HX1 := hid (heap_alloc_new w2 (.cells #[.bool na, .slice ua uL uc] 54))
  have hc2 := hc1.trans (Chg.alloc [] w2 (.cells #[.bool na, .slice ua uL uc] 54))
  have HLT2 := hid (show w.heap.size + 1 < w2.heap.size from by have := hc1.size; have := HLT.out; omega)
  have HD1' := hid (HD1.out.keep (Chg.alloc [] w2 (.cells #[.bool na, .slice ua uL uc] 54)))
  clear hc1 HD1
  generalize w2.alloc (.cells #[.bool na, .slice ua uL uc] 54) = W1 at *
  go_upto_region 5 with (go_at_call 56; refine (HR2.out _ (hc0.trans hc2)).mono ?_; rintro e w3 ⟨u2, rfl, hd2, hc3⟩; have HD2 := hid hd2; obtain ⟨ta, tL, tc, rfl, -, -, -⟩ := hd2.shape; clear hd2)
  have HX2 := hid (heap_alloc_new w3 (.cells #[.bool nb, .slice ta tL tc] 54))
  have hc4 := hc3.trans (Chg.alloc [] w3 (.cells #[.bool nb, .slice ta tL tc] 54))
  have HLT3 := hid (show w2.heap.size < w3.heap.size from by have := hc3.size; have := lt_of_block HX1.out; omega)
  have HD2' := hid (HD2.out.keep (Chg.alloc [] w3 (.cells #[.bool nb, .slice ta tL tc] 54)))
  clear hc3 HD2
  generalize w3.alloc (.cells #[.bool nb, .slice ta tL tc] 54) = W2 at *
  have HY1 := hid (hc4.heap HX1.out (by simp))
  have HD1'' := hid (HD1'.out.keep hc4)
  have HV1 := hid ((hc2.trans hc4).heap HW1.out (by simp))
  have HV2 := hid ((hc2.trans hc4).heap HW2.out (by simp))
  have hc5 := (hc0.trans hc2).trans hc4
  clear hc0 hc2 hc4 HX1 HD1' HW1 HW2 HR1 HR2
  cases fa
  · obtain ⟨y0, y1, y2, y3, -, -⟩ := store2 (.bool false) (.slice none 0 0) HV1.out
    obtain ⟨z0, z1, z2, z3, -, -⟩ := store2 (.bool false) (.slice none 0 0) HV2.out
    go_wp2_with (fail)
    obtain ⟨-, -, -, -, HZ1, hz1⟩ := store2 (.bool false) (.slice none 0 0) HV1.out
    obtain ⟨-, -, -, -, HZ2, hz2⟩ := store2 (.bool false) (.slice none 0 0) (hz1.out.heap HV2.out (by simp))
    obtain ⟨d0, d1⟩ := two_cells HZ2.out
    obtain ⟨d2, d3⟩ := two_cells (hz2.out.heap HZ1.out (by simp))
    refine ⟨by simp, ?_⟩
    refine ⟨.tuple #[.agg #[.bool false, .slice none 0 0], .agg #[.bool false, .slice none 0 0], .int .i64 7], ?_, _, _, rfl, Dg.zero _, Dg.zero _, (hc5.then hz1.out (by simp)).then hz2.out (by simp)⟩
    simp [results, Tryd.f42, go_sem, d0, d1, d2, d3]
  · cases fb
    · obtain ⟨y0, y1, y2, y3, -, -⟩ := store2 (.bool false) (.slice none 0 0) HV1.out
      obtain ⟨z0, z1, z2, z3, -, -⟩ := store2 (.bool false) (.slice none 0 0) HV2.out
      go_wp2_with (fail)
      obtain ⟨-, -, -, -, HZ1, hz1⟩ := store2 (.bool false) (.slice none 0 0) HV1.out
      obtain ⟨-, -, -, -, HZ2, hz2⟩ := store2 (.bool false) (.slice none 0 0) (hz1.out.heap HV2.out (by simp))
      obtain ⟨d0, d1⟩ := two_cells HZ2.out
      obtain ⟨d2, d3⟩ := two_cells (hz2.out.heap HZ1.out (by simp))
      refine ⟨by simp, ?_⟩
      refine ⟨.tuple #[.agg #[.bool false, .slice none 0 0], .agg #[.bool false, .slice none 0 0], .int .i64 7], ?_, _, _, rfl, Dg.zero _, Dg.zero _, (hc5.then hz1.out (by simp)).then hz2.out (by simp)⟩
      simp [results, Tryd.f42, go_sem, d0, d1, d2, d3]
    · obtain ⟨y0, y1, y2, y3, -, -⟩ := store2 (.bool na) (.slice ua uL uc) HV1.out
      obtain ⟨z0, z1, z2, z3, -, -⟩ := store2 (.bool nb) (.slice ta tL tc) HV2.out
      obtain ⟨x0, x1⟩ := two_cells HY1.out
      obtain ⟨q0, q1⟩ := two_cells HX2.out
      have b1 := HLT2.out
      have b2 := HLT3.out
      have b3 : w2.heap.size ≠ w.heap.size := by omega
      have b4 : w2.heap.size ≠ w.heap.size + 1 := by omega
      have b5 : w3.heap.size ≠ w.heap.size := by omega
      have b6 : w3.heap.size ≠ w.heap.size + 1 := by omega
      clear b1 b2 HLT HLT2 HLT3
      go_wp2_with (fail)
      go_region
      all_goals
        go_wp2_with (fail)
        obtain ⟨-, -, -, -, HZ1, hz1⟩ := store2 (.bool na) (.slice ua uL uc) HV1.out
        obtain ⟨-, -, -, -, HZ2, hz2⟩ := store2 (.bool nb) (.slice ta tL tc) (hz1.out.heap HV2.out (by simp))
        obtain ⟨d0, d1⟩ := two_cells HZ2.out
        obtain ⟨d2, d3⟩ := two_cells (hz2.out.heap HZ1.out (by simp))
        have e1 := (HD1''.out.keepN HV1.out (fun _ _ h => by cases h) hz1.out).keepN (hz1.out.heap HV2.out (by simp)) (fun _ _ h => by cases h) hz2.out
        have e2 := (HD2'.out.keepN HV1.out (fun _ _ h => by cases h) hz1.out).keepN (hz1.out.heap HV2.out (by simp)) (fun _ _ h => by cases h) hz2.out
        have hcb := (hc5.then hz1.out (by simp)).then hz2.out (by simp)
        refine ⟨by simp [Act.put], ?_⟩
        refine ⟨.tuple #[.agg #[.bool na, .slice ua uL uc], .agg #[.bool nb, .slice ta tL tc], .int .i64 0], ?_, _, _, rfl, ?_, ?_, ?_⟩
        · simp [Act.put, results, Tryd.f42, go_sem, d0, d1, d2, d3]
        · first | exact e1 | exact e1.keep (Chg.drew [] _) | exact (e1.keep (Chg.drew [] _)).keep (Chg.drew [] _)
        · first | exact e2 | exact e2.keep (Chg.drew [] _) | exact (e2.keep (Chg.drew [] _)).keep (Chg.drew [] _)
        · first | exact hcb | exact hcb.trans (Chg.drew _ _) | exact (hcb.trans (Chg.drew _ _)).trans (Chg.drew _ _)

theorem two_any (w : World) (va vb : Value) (a b : Bs) (hva : Reads w va a) (hvb : Reads w vb b) :
    Calls Tryd.prog 42 #[va, vb] w fun e w' => ∃ u1 u2, e = .returned (.tuple #[.agg #[.bool (pn (codeS a b) a), u1], .agg #[.bool (pn (codeS a b) b), u2], .int .i64 (codeS a b)]) ∧
      Dg w' u1 (pv (codeS a b) a) ∧ Dg w' u2 (pv (codeS a b) b) ∧ Chg [] w w' := by
  by_cases h : (okSize a.length && okSize b.length) = true
  · obtain ⟨h1, h2⟩ := Bool.and_eq_true_iff.1 h
    have := two_read w va vb a b hva hvb h1 h2
    unfold codeS pn pv
    rw [if_pos h]
    cases hf : fok a && fok b <;> rw [hf] at this <;> simpa using this
  · have h' : (okSize a.length && okSize b.length) = false := by simpa using h
    refine (two_size w va vb a b hva hvb h').mono ?_
    rintro e w' ⟨rfl, hc⟩
    unfold codeS pn pv
    rw [if_neg h]
    exact ⟨_, _, rfl, Dg.zero _, Dg.zero _, hc⟩

end Go.Proofs.YtmklkfogddppmaaDoor

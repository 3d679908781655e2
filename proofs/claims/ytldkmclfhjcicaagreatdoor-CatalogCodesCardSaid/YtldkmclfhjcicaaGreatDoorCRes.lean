import Derived.Test.YtldkmclfhjcicaaGreatDoorProg
import Derived.Test.YtldkmclfhjcicaaGreatDoorCRm
import Derived.Test.YtldkmclfhjcicaaGreatDoorCSk
import Derived.Test.YtldkmclfhjcicaaGreatDoorCNam
import Derived.Test.YtldkmclfhjcicaaGreatDoorCatP
import Derived.Test.YtldkmclfhjcicaaGreatDoorFr
import Derived.WalkSpells
import Derived.Outline
namespace Go.Proofs.YtldkmclfhjcicaaGreatDoor
open Go.RowKit
set_option linter.unusedVariables false
set_option linter.unusedSimpArgs false

theorem nums_le (es : List Ent) (b : Bs) : (numsS es b).getLastD 0 ≤ 9999 := by
  rw [List.getLastD_eq_getLast?]
  cases h : (numsS es b).getLast? with
  | none => simp
  | some x =>
    have hm := List.mem_of_getLast? h
    unfold numsS at hm
    obtain ⟨e, _, rfl⟩ := List.mem_map.1 hm
    show numS b e.name ≤ 9999
    by_cases h0 : numS b e.name = 0
    · omega
    · exact (numS_form b e.name h0).2.1

set_option maxHeartbeats 16000000 in
set_option maxRecDepth 100000 in
theorem Resolve_any (w : World) (ve vg : Value) (c : Cat) (hv : RdC w ve vg c) (S : ByteArray) (hS : S.size ≤ 1000000) (rel : Int) (hr63 : -9223372036854775808 ≤ rel) : Calls Tryz.prog 61 #[.agg #[ve, vg], .string S, .int .i64 rel] w fun e w' =>
    e = .returned (.tuple #[bsV (resolveC c S.data.toList rel).1, .int .i64 (resolveC c S.data.toList rel).2]) ∧ Chg [] w w' := by
  have hve := hv.1
  have hvg := hv.2
  obtain ⟨W0, hW0⟩ : ∃ W0, w.alloc (.cells #[ve, vg] 25) = W0 := ⟨_, rfl⟩
  have hbx : W0.heap[w.heap.size]? = some (.cells #[ve, vg] 25 (0, 0)) := by rw [← hW0]; exact al_new rfl
  have hw0 : Chg [] w W0 := by rw [← hW0]; exact Chg.alloc _ _ _
  have hk := Check_any W0 ve vg c ⟨hve.keep1 hw0, hvg.keep1 hw0⟩
  obtain ⟨R, hR⟩ : ∃ R, resolveC c S.data.toList rel = R := ⟨_, rfl⟩
  rw [hR]
  cases hvc : validC c with
  | false =>
    obtain rfl : ([], 1) = R := by rw [← hR]; unfold resolveC; rw [hvc]; rfl
    rw [hvc] at hk
    have HK := hid hk
    have HW0 := hid hW0
    have HB := hid hbx
    clear hv hve hvg hk hW0 hbx hR hvc
    go_enter Tryz.func61, Tryz.ntmps61
    go_wp2_with (first
      | (go_at_call 16; rw [HW0.out]; refine HK.out.mono ?_; rintro e W1 ⟨rfl, hc1⟩; obtain ⟨b0, b1⟩ := two_cells (hc1.heap HB.out (by simp))))
    go_ret2
    exact ⟨rfl, hw0.trans hc1⟩
  | true =>
    obtain ⟨a1, a2, a3, a4, a5, a6, a7⟩ := validC_all hvc
    rw [hvc] at hk
    have hgn := fun (W : World) (hW : Chg [] w W) => generations_any W ve vg c.es S hS (by omega) (hve.keep1 hW) ⟨_, _, _, (hvg.shape).choose_spec.choose_spec⟩
    have hsg := fun (W : World) (hW : Chg [] w W) => seekG_any W vg c.gs S (hvg.keep1 hW) (by omega) a6
    obtain ⟨i, hi⟩ : ∃ i, lbS (basesS c.gs) S.data.toList = i := ⟨_, rfl⟩
    rw [hi] at hsg
    obtain ⟨ix, hix⟩ : ∃ ix, idxG S.data.toList c.es = ix := ⟨_, rfl⟩
    rw [hix] at hgn
    obtain ⟨K, hK⟩ : ∃ K, ix.length = K := ⟨_, rfl⟩
    have hKg : (gensS c.es S.data.toList).length = K := by rw [← idxG_length, hix, hK]
    have hKL : K ≤ 256 := by rw [← hK, ← hix]; have := List.length_filter_le (fun i => decide (0 < numS S.data.toList (c.es.getD i default).name)) (List.range c.es.length); rw [List.length_range] at this; unfold idxG; omega
    have hnK : IntKind.i64.wrap (-(K : Int)) = -(K : Int) := by rw [IntKind.wrap_i64]; omega
    have hixl : ∀ k, k < K → ix.getD k 0 < c.es.length := fun k hk => by
      refine idxG_lt (b := S.data.toList) (es := c.es) ?_
      rw [hix, List.getD_eq_getElem?_getD, List.getElem?_eq_getElem (by omega)]; exact List.getElem_mem _
    have hixc : ∀ k, k < K → (ix.map en)[k]? = some (.int .i64 (ix.getD k 0 : Nat)) := fun k hk => by
      rw [List.getElem?_map, List.getD_eq_getElem?_getD, List.getElem?_eq_getElem (by omega)]; rfl
    have hgat : ∀ k, k < K → (gensS c.es S.data.toList).getD k default = c.es.getD (ix.getD k 0) default := fun k hk => by
      rw [← hix]; exact gens_at (by rw [hix, hK]; exact hk)
    rw [hK] at hgn
    by_cases hmg : S.data.toList ∈ basesS c.gs
    · rw [decide_eq_true hmg] at hsg
      by_cases hrel : 0 < rel
      · have hrel' : ¬ (rel ≤ 0) := by omega
        have hno : nameOk S.data.toList = true ∧ S.data.toList.length ≤ 35 := by
          obtain ⟨g, hg, hgb⟩ := List.mem_map.1 hmg
          have := grpOk_parts (List.all_eq_true.1 a5 g hg)
          rw [hgb] at this; exact ⟨this.1, this.2.1⟩
        obtain ⟨N, hN⟩ : ∃ N, (numsS c.es S.data.toList).getLastD 0 = N := ⟨_, rfl⟩
        have hN9 : N ≤ 9999 := by rw [← hN]; exact nums_le _ _
        have hge : rel ≤ 9999 - (N : Int) → ∀ W, Calls Tryz.prog 21 #[.string S, .int .i64 ((N : Int) + rel)] W fun e w' => e = .returned (.tuple #[bsV (genName S.data.toList ((N : Int) + rel).toNat), .bool true]) ∧ Chg [] W w' := fun h W => by
          have h0 := Generation_any S ((N : Int) + rel) W
          have hok : genOk S.data.toList ((N : Int) + rel) = true := by unfold genOk; rw [hno.1, decide_eq_true hno.2, decide_eq_true (by omega), decide_eq_true (by omega)]; rfl
          unfold genS at h0
          rw [hok] at h0; exact h0
        by_cases hK0 : K = 0
        · subst hK0
          have hN0 : N = 0 := by rw [← hN]; exact nums_none (by rw [hix, hK])
          subst hN0
          by_cases h9 : 9999 < rel
          · obtain rfl : ([], 6) = R := by rw [← hR]; unfold resolveC; rw [hvc, if_neg (by simp), if_neg (by simpa using hmg), if_pos hrel, hN, if_pos (by simpa using h9)]
            have HK := hid hk
            have HW0 := hid hW0
            have HB := hid hbx
            have HVE := hid hve
            have HVG := hid hvg
            have HSG := hid hsg
            have HGN := hid hgn
            clear hv hve hvg hk hW0 hbx hR hvc hsg hgn a1 a2 a3 a4 a5 a6 a7 hi hmg hK hKg hix hixl hixc hgat hge hno hN
            go_enter Tryz.func61, Tryz.ntmps61
            go_wp2_with (first
              | (go_at_call 16; rw [HW0.out]; refine HK.out.mono ?_; rintro e W1 ⟨rfl, hc1⟩; obtain ⟨b0, b1⟩ := two_cells (hc1.heap HB.out (by simp)))
              | (go_at_call 42; refine (HGN.out _ (hw0.trans hc1)).mono ?_; rintro e W2 ⟨gq, rfl, hgo, hc2'⟩; have hc2 := hc1.trans hc2'; obtain ⟨b0', b1'⟩ := two_cells (hc2.heap HB.out (by simp)); obtain ⟨qa, qc, rfl⟩ := (RdK.of_own hgo).shape; have HGO := hid hgo; clear hgo)
              | (go_at_call 54; refine (HSG.out _ (hw0.trans hc2)).mono ?_; rintro e W3 ⟨rfl, hc3'⟩; have hc3 := hc2.trans hc3'; obtain ⟨b0'', b1''⟩ := two_cells (hc3.heap HB.out (by simp))))
            go_ret2
            exact ⟨rfl, hw0.trans hc3⟩
          · obtain rfl : (genName S.data.toList (((0 : Nat) : Int) + rel).toNat, 0) = R := by rw [← hR]; unfold resolveC; rw [hvc, if_neg (by simp), if_neg (by simpa using hmg), if_pos hrel, hN, if_neg (by simpa using h9)]
            have hge' := hge (by omega)
            have hz : ((0 : Nat) : Int) + rel = rel := by omega
            rw [hz] at hge' ⊢
            have HGE := hid hge'
            have h9' : rel ≤ 9999 := by omega
            clear hz hge'
            have HK := hid hk
            have HW0 := hid hW0
            have HB := hid hbx
            have HVE := hid hve
            have HVG := hid hvg
            have HSG := hid hsg
            have HGN := hid hgn
            clear hv hve hvg hk hW0 hbx hR hvc hsg hgn a1 a2 a3 a4 a5 a6 a7 hi hmg hK hKg hix hixl hixc hgat hge hno hN
            go_enter Tryz.func61, Tryz.ntmps61
            go_wp2_with (first
              | (go_at_call 16; rw [HW0.out]; refine HK.out.mono ?_; rintro e W1 ⟨rfl, hc1⟩; obtain ⟨b0, b1⟩ := two_cells (hc1.heap HB.out (by simp)))
              | (go_at_call 42; refine (HGN.out _ (hw0.trans hc1)).mono ?_; rintro e W2 ⟨gq, rfl, hgo, hc2'⟩; have hc2 := hc1.trans hc2'; obtain ⟨b0', b1'⟩ := two_cells (hc2.heap HB.out (by simp)); obtain ⟨qa, qc, rfl⟩ := (RdK.of_own hgo).shape; have HGO := hid hgo; clear hgo)
              | (go_at_call 54; refine (HSG.out _ (hw0.trans hc2)).mono ?_; rintro e W3 ⟨rfl, hc3'⟩; have hc3 := hc2.trans hc3'; obtain ⟨b0'', b1''⟩ := two_cells (hc3.heap HB.out (by simp)))
              | (go_at_call 21; refine (HGE.out _).mono ?_; rintro e W4 ⟨rfl, hc4⟩))
            go_ret2
            exact ⟨rfl, (hw0.trans hc3).trans hc4⟩
        · have hKp : 0 < K := by omega
          have hKi : (0 : Int) < (K : Int) := by omega
          obtain ⟨j, hj⟩ : ∃ j, ix.getD (K - 1) 0 = j := ⟨_, rfl⟩
          have hjl := hixl (K - 1) (by omega)
          have hjc := hixc (K - 1) (by omega)
          rw [hj] at hjl hjc
          have hNn : numS S.data.toList (c.es.getD j default).name = N := by rw [← hN, ← hj, ← hix]; exact (nums_last (by rw [hix, hK]) hKp).symm
          obtain ⟨L, hL⟩ : ∃ L, c.es.length = L := ⟨_, rfl⟩
          rcases hve.parts hL with ⟨_, h, _⟩ | ⟨xb, xo, xd, rfl, x1, x2, x3, xlt, XC⟩
          · omega
          have y1 := (XC.out j (by omega)).1
          obtain ⟨N1, hN1⟩ : ∃ N1, (⟨(c.es.getD j default).name.toArray⟩ : ByteArray) = N1 := ⟨_, rfl⟩
          rw [hN1] at y1
          have hnum := fun W => number_any S N1 hS W
          rw [show N1.data.toList = (c.es.getD j default).name from by rw [← hN1], hNn] at hnum
          have HNUM := hid hnum
          have HY := hid y1
          have HJC := hid hjc
          have hwK : IntKind.i64.wrap ((K : Int) - 1) = (K : Int) - 1 := by rw [IntKind.wrap_i64]; omega
          have hK1i : (1 : Int) ≤ (K : Int) := by omega
          have hK0i : (0 : Int) ≤ (K : Int) - 1 := by omega
          have hKn : ((K : Int) - 1).toNat = K - 1 := by omega
          have hKlt : K - 1 < K := by omega
          have hjli : (j : Int) < (L : Int) := by omega
          have hN9i : (N : Int) ≤ 9999 := by omega
          by_cases h9 : 9999 - (N : Int) < rel
          · obtain rfl : ([], 6) = R := by rw [← hR]; unfold resolveC; rw [hvc, if_neg (by simp), if_neg (by simpa using hmg), if_pos hrel, hN, if_pos (by simpa using h9)]
            clear hnum y1 hjc hjl hj hNn hN1 XC
            have HK := hid hk
            have HW0 := hid hW0
            have HB := hid hbx
            have HVE := hid hve
            have HVG := hid hvg
            have HSG := hid hsg
            have HGN := hid hgn
            clear hv hve hvg hk hW0 hbx hR hvc hsg hgn a1 a2 a3 a4 a5 a6 a7 hi hmg hK hKg hix hixl hixc hgat hge hno hN
            go_enter Tryz.func61, Tryz.ntmps61
            go_wp2_with (first
              | (go_at_call 16; rw [HW0.out]; refine HK.out.mono ?_; rintro e W1 ⟨rfl, hc1⟩; obtain ⟨b0, b1⟩ := two_cells (hc1.heap HB.out (by simp)))
              | (go_at_call 42; refine (HGN.out _ (hw0.trans hc1)).mono ?_; rintro e W2 ⟨gq, rfl, hgo, hc2'⟩; have hc2 := hc1.trans hc2'; obtain ⟨b0', b1'⟩ := two_cells (hc2.heap HB.out (by simp)); obtain ⟨qa, qc, rfl⟩ := (RdK.of_own hgo).shape; have HGO := hid hgo; clear hgo)
              | (go_at_call 54; refine (HSG.out _ (hw0.trans hc2)).mono ?_; rintro e W3 ⟨rfl, hc3'⟩; have hc3 := hc2.trans hc3'; obtain ⟨b0'', b1''⟩ := two_cells (hc3.heap HB.out (by simp))))
            rcases (RdK.of_own HGO.out).parts with ⟨h, _⟩ | ⟨qb, qo, qc', hqv, q1, q2, q3, QC⟩
            · omega
            cases hqv
            have d1 := (hc3').cell (QC.out (K - 1) _ HJC.out) (by simp)
            obtain ⟨b0'', b1''⟩ := two_cells (hc3.heap HB.out (by simp))
            have l0 := later_cell b0''
            have l1 := later_cell d1
            have l2 := later_cell ((hw0.trans hc3).cell HY.out (by simp))
            refine wp_region_later (by kernel_rfl) (by kernel_rfl) (Chg.refl [] W3) ?_
            repeat (first | go_big_quiet_step ((go_at_call 59; exact later_same (HNUM.out _))) | quiet_step ((go_at_call 59; exact later_same (HNUM.out _))))
            refine wpQuiet_nil ?_
            rintro W4 ⟨⟨_, hc4⟩, rfl⟩
            clear l0 l1 l2 d1 b0'' b1''
            go_wp2_with (fail)
            go_ret2
            exact ⟨rfl, (hw0.trans hc3).trans hc4⟩
          · obtain rfl : (genName S.data.toList ((N : Int) + rel).toNat, 0) = R := by rw [← hR]; unfold resolveC; rw [hvc, if_neg (by simp), if_neg (by simpa using hmg), if_pos hrel, hN, if_neg (by simpa using h9)]
            have h9' : rel ≤ 9999 - (N : Int) := by omega
            have HGE := hid (hge h9')
            clear hnum y1 hjc hjl hj hNn hN1 XC
            have HK := hid hk
            have HW0 := hid hW0
            have HB := hid hbx
            have HVE := hid hve
            have HVG := hid hvg
            have HSG := hid hsg
            have HGN := hid hgn
            clear hv hve hvg hk hW0 hbx hR hvc hsg hgn a1 a2 a3 a4 a5 a6 a7 hi hmg hK hKg hix hixl hixc hgat hge hno hN
            go_enter Tryz.func61, Tryz.ntmps61
            go_wp2_with (first
              | (go_at_call 16; rw [HW0.out]; refine HK.out.mono ?_; rintro e W1 ⟨rfl, hc1⟩; obtain ⟨b0, b1⟩ := two_cells (hc1.heap HB.out (by simp)))
              | (go_at_call 42; refine (HGN.out _ (hw0.trans hc1)).mono ?_; rintro e W2 ⟨gq, rfl, hgo, hc2'⟩; have hc2 := hc1.trans hc2'; obtain ⟨b0', b1'⟩ := two_cells (hc2.heap HB.out (by simp)); obtain ⟨qa, qc, rfl⟩ := (RdK.of_own hgo).shape; have HGO := hid hgo; clear hgo)
              | (go_at_call 54; refine (HSG.out _ (hw0.trans hc2)).mono ?_; rintro e W3 ⟨rfl, hc3'⟩; have hc3 := hc2.trans hc3'; obtain ⟨b0'', b1''⟩ := two_cells (hc3.heap HB.out (by simp))))
            rcases (RdK.of_own HGO.out).parts with ⟨h, _⟩ | ⟨qb, qo, qc', hqv, q1, q2, q3, QC⟩
            · omega
            cases hqv
            have d1 := (hc3').cell (QC.out (K - 1) _ HJC.out) (by simp)
            obtain ⟨b0'', b1''⟩ := two_cells (hc3.heap HB.out (by simp))
            have l0 := later_cell b0''
            have l1 := later_cell d1
            have l2 := later_cell ((hw0.trans hc3).cell HY.out (by simp))
            refine wp_region_later (by kernel_rfl) (by kernel_rfl) (Chg.refl [] W3) ?_
            repeat (first | go_big_quiet_step ((go_at_call 59; exact later_same (HNUM.out _))) | quiet_step ((go_at_call 59; exact later_same (HNUM.out _))))
            refine wpQuiet_nil ?_
            rintro W4 ⟨⟨_, hc4⟩, rfl⟩
            clear l0 l1 l2 d1 b0'' b1''
            go_wp2_with (go_at_call 21; refine (HGE.out _).mono ?_; rintro e W5 ⟨rfl, hc5⟩)
            go_ret2
            exact ⟨rfl, ((hw0.trans hc3).trans hc4).trans hc5⟩
      · have hrel' : rel ≤ 0 := by omega
        by_cases hle : rel ≤ -(K : Int)
        · obtain rfl : ([], 3) = R := by rw [← hR]; unfold resolveC; rw [hvc, if_neg (by simp), if_neg (by simpa using hmg), if_neg hrel, hKg, if_pos hle]
          have HK := hid hk
          have HW0 := hid hW0
          have HB := hid hbx
          have HVE := hid hve
          have HVG := hid hvg
          have HSG := hid hsg
          have HGN := hid hgn
          clear hv hve hvg hk hW0 hbx hR hvc hsg hgn a1 a2 a3 a4 a5 a6 a7 hi hmg hK hKg hix hixl hixc hgat
          go_enter Tryz.func61, Tryz.ntmps61
          go_wp2_with (first
            | (go_at_call 16; rw [HW0.out]; refine HK.out.mono ?_; rintro e W1 ⟨rfl, hc1⟩; obtain ⟨b0, b1⟩ := two_cells (hc1.heap HB.out (by simp)))
            | (go_at_call 42; refine (HGN.out _ (hw0.trans hc1)).mono ?_; rintro e W2 ⟨gq, rfl, hgo, hc2'⟩; have hc2 := hc1.trans hc2'; obtain ⟨b0', b1'⟩ := two_cells (hc2.heap HB.out (by simp)); obtain ⟨qa, qc, rfl⟩ := (RdK.of_own hgo).shape; have HGO := hid hgo; clear hgo)
            | (go_at_call 54; refine (HSG.out _ (hw0.trans hc2)).mono ?_; rintro e W3 ⟨rfl, hc3'⟩; have hc3 := hc2.trans hc3'; obtain ⟨b0'', b1''⟩ := two_cells (hc3.heap HB.out (by simp))))
          go_ret2
          exact ⟨rfl, hw0.trans hc3⟩
        · obtain ⟨m, hm⟩ : ∃ m : Nat, (m : Int) = (K : Int) - 1 + rel := ⟨((K : Int) - 1 + rel).toNat, by omega⟩
          have hmK : m < K := by omega
          have hmKi : (m : Int) < (K : Int) := by omega
          obtain ⟨j, hj⟩ : ∃ j, ix.getD m 0 = j := ⟨_, rfl⟩
          have hjl := hixl m hmK
          have hjc := hixc m hmK
          rw [hj] at hjl hjc
          obtain ⟨L, hL⟩ : ∃ L, c.es.length = L := ⟨_, rfl⟩
          rcases hve.parts hL with ⟨_, h, _⟩ | ⟨xb, xo, xd, rfl, x1, x2, x3, xlt, XC⟩
          · omega
          have y1 := (XC.out j (by omega)).1
          obtain rfl : ((c.es.getD j default).name, 0) = R := by
            rw [← hR]; unfold resolveC; rw [hvc, if_neg (by simp), if_neg (by simpa using hmg), if_neg hrel, hKg, if_neg hle, ← hm, Int.toNat_natCast, hgat m hmK, hj]
          obtain ⟨N1, hN1⟩ : ∃ N1, (⟨(c.es.getD j default).name.toArray⟩ : ByteArray) = N1 := ⟨_, rfl⟩
          have hbv : bsV (c.es.getD j default).name = .string N1 := by unfold bsV; rw [hN1]
          rw [hN1] at y1
          rw [hbv]
          have HY := hid y1
          have HJC := hid hjc
          have hwK : IntKind.i64.wrap ((K : Int) - 1) = (K : Int) - 1 := by rw [IntKind.wrap_i64]; omega
          have hwm : IntKind.i64.wrap ((K : Int) - 1 + rel) = (m : Int) := by rw [← hm, IntKind.wrap_i64]; omega
          have hjli : (j : Int) < (L : Int) := by omega
          have hKi : (0 : Int) < (K : Int) := by omega
          have hKp : 0 < K := by omega
          have hle' : -(K : Int) < rel := by omega
          clear y1 hjc hjl hj hN1 XC hbv hm hle
          have HK := hid hk
          have HW0 := hid hW0
          have HB := hid hbx
          have HVE := hid hve
          have HVG := hid hvg
          have HSG := hid hsg
          have HGN := hid hgn
          clear hv hve hvg hk hW0 hbx hR hvc hsg hgn a1 a2 a3 a4 a5 a6 a7 hi hmg hK hKg hix hixl hixc hgat
          go_enter Tryz.func61, Tryz.ntmps61
          go_wp2_with (first
            | (go_at_call 16; rw [HW0.out]; refine HK.out.mono ?_; rintro e W1 ⟨rfl, hc1⟩; obtain ⟨b0, b1⟩ := two_cells (hc1.heap HB.out (by simp)))
            | (go_at_call 42; refine (HGN.out _ (hw0.trans hc1)).mono ?_; rintro e W2 ⟨gq, rfl, hgo, hc2'⟩; have hc2 := hc1.trans hc2'; obtain ⟨b0', b1'⟩ := two_cells (hc2.heap HB.out (by simp)); obtain ⟨qa, qc, rfl⟩ := (RdK.of_own hgo).shape; have HGO := hid hgo; clear hgo)
            | (go_at_call 54; refine (HSG.out _ (hw0.trans hc2)).mono ?_; rintro e W3 ⟨rfl, hc3'⟩; have hc3 := hc2.trans hc3'; obtain ⟨b0'', b1''⟩ := two_cells (hc3.heap HB.out (by simp))))
          rcases (RdK.of_own HGO.out).parts with ⟨h, _⟩ | ⟨qb, qo, qc', hqv, q1, q2, q3, QC⟩
          · omega
          cases hqv
          have d1 := (hc3').cell (QC.out m _ HJC.out) (by simp)
          obtain ⟨b0'', b1''⟩ := two_cells (hc3.heap HB.out (by simp))
          have l0 := later_cell b0''
          have l1 := later_cell d1
          have l2 := later_cell ((hw0.trans hc3).cell HY.out (by simp))
          refine wp_region_later (by kernel_rfl) (by kernel_rfl) (Chg.refl [] W3) ?_
          repeat (first | go_big_quiet_step (fail) | quiet_step (fail))
          refine wpQuiet_nil ?_
          rintro W4 ⟨⟨_, hc4⟩, rfl⟩
          clear l0 l1 l2
          go_wp2_with (fail)
          go_ret2
          exact ⟨rfl, (hw0.trans hc3).trans hc4⟩
    · rw [decide_eq_false hmg] at hsg
      obtain rfl : ([], 3) = R := by rw [← hR]; unfold resolveC; rw [hvc, if_neg (by simp), if_pos hmg]
      have HK := hid hk
      have HW0 := hid hW0
      have HB := hid hbx
      have HVE := hid hve
      have HVG := hid hvg
      have HSG := hid hsg
      have HGN := hid hgn
      clear hv hve hvg hk hW0 hbx hR hvc hsg hgn a1 a2 a3 a4 a5 a6 a7 hi hmg hK hKg hix hixl hixc hgat
      go_enter Tryz.func61, Tryz.ntmps61
      go_wp2_with (first
        | (go_at_call 16; rw [HW0.out]; refine HK.out.mono ?_; rintro e W1 ⟨rfl, hc1⟩; obtain ⟨b0, b1⟩ := two_cells (hc1.heap HB.out (by simp)))
        | (go_at_call 42; refine (HGN.out _ (hw0.trans hc1)).mono ?_; rintro e W2 ⟨gq, rfl, hgo, hc2'⟩; have hc2 := hc1.trans hc2'; obtain ⟨b0', b1'⟩ := two_cells (hc2.heap HB.out (by simp)); obtain ⟨qa, qc, rfl⟩ := (RdK.of_own hgo).shape; have HGO := hid hgo; clear hgo)
        | (go_at_call 54; refine (HSG.out _ (hw0.trans hc2)).mono ?_; rintro e W3 ⟨rfl, hc3'⟩; have hc3 := hc2.trans hc3'; obtain ⟨b0'', b1''⟩ := two_cells (hc3.heap HB.out (by simp))))
      go_ret2
      exact ⟨rfl, hw0.trans hc3⟩

end Go.Proofs.YtldkmclfhjcicaaGreatDoor

/- Check of layer 27. -/
import Derived.Test.YtldkmclfhjcicaaDoorCSk
import Derived.Test.YtldkmclfhjcicaaDoorCatP
import Derived.Test.YtldkmclfhjcicaaDoorFr
import Derived.Deep.Cut
import Derived.Outline
namespace Go.Proofs.YtldkmclfhjcicaaDoor
open Go.RowKit Go.Shelf
set_option linter.unusedVariables false
set_option linter.unusedSimpArgs false

/-- an entry of a slice, as the walk reads it -/
theorem four_cells {w : World} {g : Nat} {a b c d : Value} {t : TypeId} {fr : Nat × Nat} (h : w.heap[g]? = some (.cells #[a, b, c, d] t fr)) :
    w.cell? ⟨g, 0, none⟩ = some a ∧ w.cell? ⟨g, 1, none⟩ = some b ∧ w.cell? ⟨g, 2, none⟩ = some c ∧ w.cell? ⟨g, 3, none⟩ = some d := by
  refine ⟨?_, ?_, ?_, ?_⟩ <;> (rw [cell_of_row w g _ _ t fr h]; rfl)

theorem le_facts {P X : ByteArray} (h : P.data.toList < X.data.toList) : Op.bytesLess X.toList P.toList = false ∧ (X.toList == P.toList) = false := by
  rw [str_less, str_eq]
  exact ⟨decide_eq_false (lt_asymm' h), decide_eq_false (fun e => lt_ne h e.symm)⟩
theorem le_facts' {P X : ByteArray} (h : ¬ P.data.toList < X.data.toList) : (Op.bytesLess X.toList P.toList || (X.toList == P.toList)) = true := by
  rw [str_less, str_eq]
  by_cases e : X.data.toList = P.data.toList
  · rw [decide_eq_true e]; simp
  · rw [decide_eq_true (lt_or h (fun g => e g.symm))]; rfl

theorem validE_ent (x : Ent) (b : Bool) (h : entOk x = b) (W : World) : Calls Tryd.prog 52 #[.agg #[.string ⟨x.name.toArray⟩, .int .i64 x.unit, .string ⟨x.serial.toArray⟩, .int .i64 x.file]] W fun e w' => e = .returned (.bool b) ∧ Chg [] W w' := by
  rw [← h]
  exact validE_any ⟨x.name.toArray⟩ ⟨x.serial.toArray⟩ x.unit x.file W
theorem validG_grp (x : Grp) (b : Bool) (h : grpOk x = b) (W : World) : Calls Tryd.prog 43 #[.agg #[.string ⟨x.base.toArray⟩, .int .i64 x.limit]] W fun e w' => e = .returned (.bool b) ∧ Chg [] W w' := by
  rw [← h]
  exact validG_any ⟨x.base.toArray⟩ x.limit W

set_option maxRecDepth 100000 in
set_option maxHeartbeats 2000000 in
theorem Check_any (w : World) (ve vg : Value) (c : Cat) (hv : RdC w ve vg c) : Calls Tryd.prog 23 #[.agg #[ve, vg]] w fun e w' => e = .returned (.int .i64 (if validC c then 0 else 1)) ∧ Chg [] w w' := by
  obtain ⟨hve, hvg⟩ := hv
  obtain ⟨L, hL⟩ : ∃ L, c.es.length = L := ⟨_, rfl⟩
  obtain ⟨M, hM⟩ : ∃ M, c.gs.length = M := ⟨_, rfl⟩
  have HVE := hid hve
  have HVG := hid hvg
  obtain ⟨ea, ec, rfl, HC⟩ : ∃ ea ec, ve = .slice ea L ec ∧ Hid (∀ i, i < L → ∃ bb off, ea = some ⟨bb, off, none⟩ ∧ bb < w.heap.size ∧ w.cell? ⟨bb, off + i * 4, none⟩ = some (.string ⟨(c.es.getD i default).name.toArray⟩) ∧ w.cell? ⟨bb, off + i * 4 + 1, none⟩ = some (.int .i64 (c.es.getD i default).unit) ∧
        w.cell? ⟨bb, off + i * 4 + 2, none⟩ = some (.string ⟨(c.es.getD i default).serial.toArray⟩) ∧ w.cell? ⟨bb, off + i * 4 + 3, none⟩ = some (.int .i64 (c.es.getD i default).file)) := by
    rcases hve.parts hL with ⟨_, h0, a, cap, rfl⟩ | ⟨bb, off, cap, rfl, h1, h2, h3, hbb, hc⟩
    · exact ⟨a, cap, by rw [h0], fun i hi => by omega⟩
    · exact ⟨_, _, rfl, fun i hi => ⟨bb, off, rfl, hbb, hc.out i hi⟩⟩
  obtain ⟨ga, gc, rfl, HG⟩ : ∃ ga gc, vg = .slice ga M gc ∧ Hid (∀ i, i < M → ∃ bb off, ga = some ⟨bb, off, none⟩ ∧ bb < w.heap.size ∧ w.cell? ⟨bb, off + i * 2, none⟩ = some (.string ⟨(c.gs.getD i default).base.toArray⟩) ∧ w.cell? ⟨bb, off + i * 2 + 1, none⟩ = some (.int .i64 (c.gs.getD i default).limit)) := by
    rcases hvg.parts hM with ⟨_, h0, a, cap, rfl⟩ | ⟨bb, off, cap, rfl, h1, h2, h3, hbb, hc⟩
    · exact ⟨a, cap, by rw [h0], fun i hi => by omega⟩
    · exact ⟨_, _, rfl, fun i hi => ⟨bb, off, rfl, hbb, hc.out i hi⟩⟩
  clear hve hvg
  obtain ⟨R, hR⟩ : ∃ R, validC c = R := ⟨_, rfl⟩
  rw [hR]
  have HR := hid hR
  clear hR
  by_cases h1 : (256 : Int) < (L : Int)
  · obtain rfl : R = false := HR.out.symm.trans (bad_len (.inl (by omega)))
    go_enter Tryd.func23, Tryd.ntmps23
    go_wp2_with (fail)
    go_ret
    exact ⟨rfl, Chg.alloc _ _ _⟩
  by_cases h2 : (32 : Int) < (M : Int)
  · obtain rfl : R = false := HR.out.symm.trans (bad_len (.inr (by omega)))
    go_enter Tryd.func23, Tryd.ntmps23
    go_wp2_with (fail)
    go_ret
    exact ⟨rfl, Chg.alloc _ _ _⟩
  have HLs := hid hL
  have HMs := hid hM
  clear hL hM
  go_enter Tryd.func23, Tryd.ntmps23
  go_wp2_with (fail)
  go_loopw [22] (fun i wr => ∃ k : Nat, k ≤ L ∧ i = .int .i64 k ∧ Hid (ckE c.es k) ∧ Chg [] w wr ∧ Hid (wr.heap[w.heap.size]? = some (.cells #[.slice ea L ec, .slice ga M gc] 36 (0, 0)))) (fun i _ => L - (intOf i).toNat)
  case atStart => exact ⟨0, by omega, rfl, ckE_zero _, Chg.alloc _ _ _, al_new rfl⟩
  case round =>
    obtain ⟨k, hk, rfl, hck, hc, hbox⟩ := hrel
    by_cases hlt : k < L
    · obtain ⟨bb, off, rfl, hbb, k0, k1, k2, k3⟩ := HC.out k hlt
      have hlti : (k : Int) < (L : Int) := by omega
      have hwz := lt_of_block hbox.out
      replace k0 := hc.cell k0 (by simp)
      replace k1 := hc.cell k1 (by simp)
      replace k2 := hc.cell k2 (by simp)
      replace k3 := hc.cell k3 (by simp)
      cases ho : entOk (c.es.getD k default)
      · obtain rfl : R = false := HR.out.symm.trans (bad_ent (by rw [HLs.out]; exact hlt) ho)
        have cV := fun W => validE_ent _ _ ho W
        clear ho hck HC HG HVE HVG
        generalize hx : c.es.getD k default = x at *
        have HX := hid hx
        clear hx
        obtain ⟨X, hX⟩ : ∃ X : ByteArray, (⟨x.name.toArray⟩ : ByteArray) = X := ⟨_, rfl⟩
        rw [hX] at k0 cV
        have HXn := hid (show X.data.toList = x.name from by rw [← hX])
        clear hX
        generalize (⟨x.serial.toArray⟩ : ByteArray) = Y at *
        go_upto_region 6 with (fail)
        have he : (wr.alloc (.cells #[.string X, .int .i64 x.unit, .string Y, .int .i64 x.file] 50)).heap[wr.heap.size]? = some (.cells #[.string X, .int .i64 x.unit, .string Y, .int .i64 x.file] 50 (0, 0)) := al_new rfl
        have hbx := al_old (o := .cells #[.string X, .int .i64 x.unit, .string Y, .int .i64 x.file] 50 (0, 0)) hbox.out
        have hcc := hc.trans (Chg.alloc [] wr (.cells #[.string X, .int .i64 x.unit, .string Y, .int .i64 x.file] 50))
        generalize wr.alloc (.cells #[.string X, .int .i64 x.unit, .string Y, .int .i64 x.file] 50) = W at *
        generalize wr.heap.size = E at *
        have l0 := later_cell (four_cells he).1
        have l1 := later_cell (four_cells he).2.1
        have l2 := later_cell (four_cells he).2.2.1
        have l3 := later_cell (four_cells he).2.2.2
        have lb := later_cell (two_cells hbx).1
        have HBX := hid hbx
        clear k0 k1 k2 k3 hc hbox he hbx
        refine wp_region_later (by kernel_rfl) (by kernel_rfl) (Chg.refl [] W) ?_
        repeat (first | go_big_quiet_step ((go_at_call 52; exact later_calls (cV _))) | quiet_step ((go_at_call 52; exact later_calls (cV _))))
        refine wpQuiet_nil ?_
        rintro _ ⟨⟨W2, hW2⟩, rfl⟩
        go_wp2_with (fail)
        go_ret
        exact ⟨rfl, hcc.trans hW2⟩
      · have cV := fun W => validE_ent _ _ ho W
        by_cases hk0 : k = 0
        · have hck' := hid (ckE_succ (by rw [HLs.out]; exact hlt) hck.out ho (.inl hk0))
          have hkn : decide (0 < k) = false := decide_eq_false (by omega)
          clear ho hk0
          generalize hx : c.es.getD k default = x at *
          have HX := hid hx
          clear hx
          obtain ⟨X, hX⟩ : ∃ X : ByteArray, (⟨x.name.toArray⟩ : ByteArray) = X := ⟨_, rfl⟩
          rw [hX] at k0 cV
          have HXn := hid (show X.data.toList = x.name from by rw [← hX])
          clear hX
          generalize (⟨x.serial.toArray⟩ : ByteArray) = Y at *
          go_upto_region 6 with (fail)
          have he : (wr.alloc (.cells #[.string X, .int .i64 x.unit, .string Y, .int .i64 x.file] 50)).heap[wr.heap.size]? = some (.cells #[.string X, .int .i64 x.unit, .string Y, .int .i64 x.file] 50 (0, 0)) := al_new rfl
          have hbx := al_old (o := .cells #[.string X, .int .i64 x.unit, .string Y, .int .i64 x.file] 50 (0, 0)) hbox.out
          have hcc := hc.trans (Chg.alloc [] wr (.cells #[.string X, .int .i64 x.unit, .string Y, .int .i64 x.file] 50))
          generalize wr.alloc (.cells #[.string X, .int .i64 x.unit, .string Y, .int .i64 x.file] 50) = W at *
          generalize wr.heap.size = E at *
          have l0 := later_cell (four_cells he).1
          have l1 := later_cell (four_cells he).2.1
          have l2 := later_cell (four_cells he).2.2.1
          have l3 := later_cell (four_cells he).2.2.2
          have lb := later_cell (two_cells hbx).1
          have HBX := hid hbx
          clear k0 k1 k2 k3 hc hbox he hbx
          refine wp_region_later (by kernel_rfl) (by kernel_rfl) (Chg.refl [] W) ?_
          repeat (first | go_big_quiet_step ((go_at_call 52; exact later_calls (cV _))) | quiet_step ((go_at_call 52; exact later_calls (cV _))))
          refine wpQuiet_nil ?_
          rintro _ ⟨⟨W2, hW2⟩, rfl⟩
          go_wp2_with (fail)
          go_roundw
          case rel => exact ⟨k + 1, by omega, by go_num, hck'.out, hcc.trans hW2, hW2.heap HBX.out (by simp)⟩
          case measure => simp [intOf]; omega
        · obtain ⟨bb', off', hbe, hbb', p0, -, -, -⟩ := HC.out (k - 1) (by omega)
          injection hbe with hbe
          injection hbe with hbe1 hbe2
          subst hbe1
          subst hbe2
          have hkk : (0 : Int) < (k : Int) := by omega
          have hkd : decide (0 < k) = true := decide_eq_true (by omega)
          have hk2 : (k : Int) - 1 < (L : Int) := by omega
          have hk3 : (0 : Int) ≤ (k : Int) - 1 := by omega
          have hk4 : ((k : Int) - 1).toNat = k - 1 := by omega
          have hk5 : k - 1 < L := by omega
          replace p0 := (hc.trans (Chg.alloc [] wr (.cells #[.string ⟨(c.es.getD k default).name.toArray⟩, .int .i64 (c.es.getD k default).unit, .string ⟨(c.es.getD k default).serial.toArray⟩, .int .i64 (c.es.getD k default).file] 50))).cell p0 (by simp)
          obtain ⟨Pv, hPv⟩ : ∃ P : ByteArray, (⟨(c.es.getD (k - 1) default).name.toArray⟩ : ByteArray) = P := ⟨_, rfl⟩
          rw [hPv] at p0
          have HPn : Hid (Pv.data.toList = (c.es.getD (k - 1) default).name) := by rw [← hPv]; rfl
          clear hPv
          by_cases hord : (c.es.getD (k - 1) default).name < (c.es.getD k default).name
          · have hck' := hid (ckE_succ (by rw [HLs.out]; exact hlt) hck.out ho (.inr hord))
            have hle : (⟨(c.es.getD k default).name.toArray⟩ : ByteArray).data.toList = (c.es.getD k default).name := rfl
            obtain ⟨f1, f2⟩ := le_facts (P := Pv) (X := ⟨(c.es.getD k default).name.toArray⟩) (by rw [HPn.out]; exact hord)
            clear ho hord hle
            generalize hx : c.es.getD k default = x at *
            have HX := hid hx
            clear hx
            obtain ⟨X, hX⟩ : ∃ X : ByteArray, (⟨x.name.toArray⟩ : ByteArray) = X := ⟨_, rfl⟩
            rw [hX] at k0 cV f1 f2 p0
            have HXn := hid (show X.data.toList = x.name from by rw [← hX])
            clear hX
            generalize (⟨x.serial.toArray⟩ : ByteArray) = Y at *
            go_upto_region 6 with (fail)
            have he : (wr.alloc (.cells #[.string X, .int .i64 x.unit, .string Y, .int .i64 x.file] 50)).heap[wr.heap.size]? = some (.cells #[.string X, .int .i64 x.unit, .string Y, .int .i64 x.file] 50 (0, 0)) := al_new rfl
            have hbx := al_old (o := .cells #[.string X, .int .i64 x.unit, .string Y, .int .i64 x.file] 50 (0, 0)) hbox.out
            have hcc := hc.trans (Chg.alloc [] wr (.cells #[.string X, .int .i64 x.unit, .string Y, .int .i64 x.file] 50))
            generalize wr.alloc (.cells #[.string X, .int .i64 x.unit, .string Y, .int .i64 x.file] 50) = W at *
            generalize wr.heap.size = E at *
            have l0 := later_cell (four_cells he).1
            have l1 := later_cell (four_cells he).2.1
            have l2 := later_cell (four_cells he).2.2.1
            have l3 := later_cell (four_cells he).2.2.2
            have lp := later_cell p0
            have lb := later_cell (two_cells hbx).1
            have HBX := hid hbx
            clear p0 k0 k1 k2 k3 hc hbox he hbx
            refine wp_region_later (by kernel_rfl) (by kernel_rfl) (Chg.refl [] W) ?_
            repeat (first | go_big_quiet_step ((go_at_call 52; exact later_calls (cV _))) | quiet_step ((go_at_call 52; exact later_calls (cV _))))
            refine wpQuiet_nil ?_
            rintro _ ⟨⟨W2, hW2⟩, rfl⟩
            go_wp2_with (fail)
            go_roundw
            case rel => exact ⟨k + 1, by omega, by go_num, hck'.out, hcc.trans hW2, hW2.heap HBX.out (by simp)⟩
            case measure => simp [intOf]; omega
          · obtain rfl : R = false := HR.out.symm.trans (bad_ord (by rw [HLs.out]; exact hlt) (by omega) hord)
            have f1 := le_facts' (P := Pv) (X := ⟨(c.es.getD k default).name.toArray⟩) (by rw [HPn.out]; exact hord)
            clear ho hord hck HC HG HVE HVG
            generalize hx : c.es.getD k default = x at *
            have HX := hid hx
            clear hx
            obtain ⟨X, hX⟩ : ∃ X : ByteArray, (⟨x.name.toArray⟩ : ByteArray) = X := ⟨_, rfl⟩
            rw [hX] at k0 cV f1 p0
            have HXn := hid (show X.data.toList = x.name from by rw [← hX])
            clear hX
            generalize (⟨x.serial.toArray⟩ : ByteArray) = Y at *
            go_upto_region 6 with (fail)
            have he : (wr.alloc (.cells #[.string X, .int .i64 x.unit, .string Y, .int .i64 x.file] 50)).heap[wr.heap.size]? = some (.cells #[.string X, .int .i64 x.unit, .string Y, .int .i64 x.file] 50 (0, 0)) := al_new rfl
            have hbx := al_old (o := .cells #[.string X, .int .i64 x.unit, .string Y, .int .i64 x.file] 50 (0, 0)) hbox.out
            have hcc := hc.trans (Chg.alloc [] wr (.cells #[.string X, .int .i64 x.unit, .string Y, .int .i64 x.file] 50))
            generalize wr.alloc (.cells #[.string X, .int .i64 x.unit, .string Y, .int .i64 x.file] 50) = W at *
            generalize wr.heap.size = E at *
            have l0 := later_cell (four_cells he).1
            have l1 := later_cell (four_cells he).2.1
            have l2 := later_cell (four_cells he).2.2.1
            have l3 := later_cell (four_cells he).2.2.2
            have lp := later_cell p0
            have lb := later_cell (two_cells hbx).1
            have HBX := hid hbx
            clear p0 k0 k1 k2 k3 hc hbox he hbx
            refine wp_region_later (by kernel_rfl) (by kernel_rfl) (Chg.refl [] W) ?_
            repeat (first | go_big_quiet_step ((go_at_call 52; exact later_calls (cV _))) | quiet_step ((go_at_call 52; exact later_calls (cV _))))
            refine wpQuiet_nil ?_
            rintro _ ⟨⟨W2, hW2⟩, rfl⟩
            go_wp2_with (fail)
            go_ret
            exact ⟨rfl, hcc.trans hW2⟩
    · obtain rfl : k = L := by omega
      obtain ⟨hall, hasc⟩ := ckE_all (show ckE c.es c.es.length from by rw [HLs.out]; exact hck.out)
      have HckE := hid hck.out
      have HS : Hid (∀ (X : ByteArray) W, Chg [] w W → Calls Tryd.prog 46 #[.slice ea k ec, .string X, .func (.func 47) #[] #[]] W fun e w' =>
          e = .returned (.tuple #[.int .i64 (lbS (namesS c.es) X.data.toList : Nat), .bool (decide (X.data.toList ∈ namesS c.es))]) ∧ Chg [] W w') := fun X W hW =>
        seekE_any W _ c.es X (HVE.out.keep1 hW) (by rw [HLs.out]; omega) hasc
      have HGn : Hid (∀ (X : ByteArray) W, X.size ≤ 1000000 → Chg [] w W → Calls Tryd.prog 48 #[.agg #[.slice ea k ec, .slice ga M gc], .string X] W fun e w' => ∃ u, e = .returned u ∧ w'.ownsRow W.heap.size 3 1 u (idxG X.data.toList c.es).length ((idxG X.data.toList c.es).map en) ∧ Chg [] W w') := fun X W hX hW =>
        generations_any W _ _ c.es X hX (by rw [HLs.out]; omega) (HVE.out.keep1 hW) ⟨_, _, _, rfl⟩
      have HCh := hid hc
      obtain ⟨b0, b1⟩ := two_cells hbox.out
      clear hall hasc hck hc
      go_wp2_with (fail)
      go_loopw [50] (fun i wr => ∃ j : Nat, j ≤ M ∧ i = .int .i64 j ∧ Hid (ckG c j) ∧ Chg [] w wr ∧ Hid (wr.heap[w.heap.size]? = some (.cells #[.slice ea k ec, .slice ga M gc] 36 (0, 0)))) (fun i _ => M - (intOf i).toNat)
      case atStart => exact ⟨0, by omega, rfl, ckG_zero _, HCh.out, hbox⟩
      case round =>
        clear hbox HCh b0 b1
        obtain ⟨j, hj, rfl, hck, hc, hbox⟩ := hrel
        by_cases hlt2 : j < M
        · obtain ⟨gb, gof, rfl, hgb, k0, k1⟩ := HG.out j hlt2
          have hlti : (j : Int) < (M : Int) := by omega
          have hwz := lt_of_block hbox.out
          replace k0 := hc.cell k0 (by simp)
          replace k1 := hc.cell k1 (by simp)
          have HX := hid (rfl : c.gs.getD j default = c.gs.getD j default)
          obtain ⟨x, hx⟩ : ∃ x, c.gs.getD j default = x := ⟨_, rfl⟩
          obtain ⟨X, hX⟩ : ∃ X : ByteArray, (⟨x.base.toArray⟩ : ByteArray) = X := ⟨_, rfl⟩
          have hXn : X.data.toList = x.base := by rw [← hX]
          rw [hx] at k0 k1
          rw [hX] at k0
          have HXn := hid hXn
          have cS := HS.out X
          rw [hXn] at cS
          obtain ⟨pl, hpl⟩ : ∃ p, lbS (namesS c.es) x.base = p := ⟨_, rfl⟩
          obtain ⟨dn, hdn⟩ : ∃ d, decide (x.base ∈ namesS c.es) = d := ⟨_, rfl⟩
          rw [hpl, hdn] at cS
          have HDn := hid hdn
          have HX2 := hid hx
          have HXe := hid hX
          clear hpl hdn hXn HX hx hX
          go_upto_region 12 with (fail)
          have he : (wr.alloc (.cells #[.string X, .int .i64 x.limit] 61)).heap[wr.heap.size]? = some (.cells #[.string X, .int .i64 x.limit] 61 (0, 0)) := al_new rfl
          have hbx := al_old (o := .cells #[.string X, .int .i64 x.limit] 61 (0, 0)) hbox.out
          have hcc := hc.trans (Chg.alloc [] wr (.cells #[.string X, .int .i64 x.limit] 61))
          generalize wr.alloc (.cells #[.string X, .int .i64 x.limit] 61) = W0 at *
          generalize wr.heap.size = E at *
          have g0 := (two_cells he).1
          have g1 := (two_cells he).2
          have b0 := (two_cells hbx).1
          have b1 := (two_cells hbx).2
          clear k0 k1 hc hbox
          go_upto_region 13 with (go_at_call 46; refine (cS _ hcc).mono ?_; rintro e W ⟨rfl, hsk⟩)
          replace hcc := hcc.trans hsk
          replace g0 := hsk.cell g0 (by simp)
          replace g1 := hsk.cell g1 (by simp)
          replace b0 := hsk.cell b0 (by simp)
          replace b1 := hsk.cell b1 (by simp)
          have HBX := hid (hsk.heap hbx (by simp))
          clear cS hsk hbx he
          have gok : ∀ a b d, grpOk x = a → decide (x.base ∈ namesS c.es) = b → decide (((gensS c.es x.base).length : Int) ≤ x.limit) = d → gOk c x = (a && !b && d) := fun a b d h1 h2 h3 => by
            unfold gOk; rw [h1, h3, List.contains_eq_mem, h2]
          have GOK := hid gok
          clear gok
          cases ho : grpOk x
          · obtain rfl : R = false := HR.out.symm.trans (bad_grp (k := j) (by rw [HMs.out]; exact hlt2) (by rw [HX2.out, GOK.out _ _ _ ho rfl rfl]; rfl))
            have cV := fun W => validG_grp _ _ ho W
            rw [HXe.out] at cV
            clear ho
            have l0 := later_cell g0
            have l1 := later_cell g1
            have lb := later_cell b0
            have lb1 := later_cell b1
            clear g0 g1 b0 b1
            refine wp_region_later (by kernel_rfl) (by kernel_rfl) (Chg.refl [] W) ?_
            repeat (first | go_big_quiet_step ((go_at_call 43; exact later_calls (cV _))) | quiet_step ((go_at_call 43; exact later_calls (cV _))))
            refine wpQuiet_nil ?_
            rintro _ ⟨⟨W2, hW2⟩, rfl⟩
            go_wp2_with (fail)
            go_ret
            exact ⟨rfl, hcc.trans hW2⟩
          · have cV := fun W => validG_grp _ _ ho W
            rw [HXe.out] at cV
            have hgl := (grpOk_parts ho).2.1
            -- the order
            have key : (j = 0 ∧ decide (0 < j) = false) ∨ ((0 : Int) < (j : Int) ∧ decide (0 < j) = true ∧ (0 : Int) ≤ (j : Int) - 1 ∧ ((j : Int) - 1).toNat = j - 1 ∧ j - 1 < M ∧ (j : Int) - 1 < (M : Int)) := by
              rcases Nat.eq_zero_or_pos j with h | h
              · exact .inl ⟨h, decide_eq_false (by omega)⟩
              · exact .inr ⟨by omega, decide_eq_true h, by omega, by omega, by omega, by omega⟩
            rcases key with ⟨hj0, hjd⟩ | ⟨hjp, hjd, hj3, hj4, hj5, hj6⟩
            · cases dn
              · -- named = false, the first group
                have HJ0 := hid hj0
                have cG : ∀ w', Chg [] W w' → Calls Tryd.prog 48 #[.agg #[.slice ea k ec, .slice (some ⟨gb, gof, none⟩) M gc], .string X] w' fun e w'' => ∃ a u, e = .returned (.slice a (gensS c.es x.base).length u) ∧ Chg [] w' w'' := fun w' hw' => by
                  refine (HGn.out X w' (by rw [← bs_len, HXn.out]; omega) (hcc.trans hw')).mono ?_
                  rintro e w'' ⟨u, rfl, hO, hch⟩
                  obtain ⟨a, cp, rfl⟩ := (RdK.of_own hO).shape
                  rw [HXn.out, idxG_length]
                  exact ⟨a, cp, rfl, hch⟩
                obtain ⟨cnt, hcnt⟩ : ∃ n, (gensS c.es x.base).length = n := ⟨_, rfl⟩
                rw [hcnt] at cG
                have HCnt := hid hcnt
                clear hcnt
                refine region_held (S := fun w' => Chg [] W w') (by kernel_rfl) (n := 32) rfl (l := #[false, false, false, false, false, false, false, false, false, false, false, false, false, false, false, false, false, false, false, false, false, false, false, false, false, false, false, false, false, false, false, false]) rfl ?_
                have hS0 : Chg [] W W.drew := Chg.drew [] W
                first | (refine held_take' 0 63 (listed' := #[true, false, false, false, false, false, false, false, false, false, false, false, false, false, false, false, false, false, false, false, false, false, false, false, false, false, false, false, false, false, false, false]) (v := ?v1) (t' := ?t1) rfl rfl (by kernel_rfl) (by rfl) ?hv1 (fun _ _ _ h => h) hS0 rfl ?ht1 ?rest1; (case hv1 => (intro W' hW'; have q0 := hW'.cell g0 (by simp); have q1 := hW'.cell g1 (by simp); have q2 := hW'.cell b0 (by simp); have q3 := hW'.cell b1 (by simp); go_simp; try with_reducible rfl)); case ht1 => (simp only [List.setIfInBounds_toArray, List.set_cons_zero, List.set_cons_succ]; with_reducible rfl)) | (refine held_skip' 0 63 (listed' := #[true, false, false, false, false, false, false, false, false, false, false, false, false, false, false, false, false, false, false, false, false, false, false, false, false, false, false, false, false, false, false, false]) (t' := ?t1) rfl rfl (by kernel_rfl) (by rfl) (fun _ _ _ h => h) hS0 rfl ?ht1 ?rest1; case ht1 => (simp only [List.setIfInBounds_toArray, List.set_cons_zero, List.set_cons_succ]; with_reducible rfl))
                refine held_one 1 rfl (by kernel_rfl) (by rfl) (fun K hK => ?_)
                go_simp
                refine (cV _).mono ?_
                rintro e w1 ⟨rfl, hv1⟩
                have hS1 := hS0.trans hv1
                refine hK.out _ _ hS1 ?_
                clear hK K
                show wpAnyH _ _ _ _ _ _ #[true, true, false, false, false, false, false, false, false, false, false, false, false, false, false, false, false, false, false, false, false, false, false, false, false, false, false, false, false, false, false, false] _ _
                first | (refine held_take' 2 65 (listed' := #[true, true, true, false, false, false, false, false, false, false, false, false, false, false, false, false, false, false, false, false, false, false, false, false, false, false, false, false, false, false, false, false]) (v := ?v2) (t' := ?t2) rfl rfl (by kernel_rfl) (by rfl) ?hv2 (fun _ _ _ h => h) hS1 rfl ?ht2 ?rest2; (case hv2 => (intro W' hW'; have q0 := hW'.cell g0 (by simp); have q1 := hW'.cell g1 (by simp); have q2 := hW'.cell b0 (by simp); have q3 := hW'.cell b1 (by simp); go_simp; try with_reducible rfl)); case ht2 => (simp only [List.setIfInBounds_toArray, List.set_cons_zero, List.set_cons_succ]; with_reducible rfl)) | (refine held_skip' 2 65 (listed' := #[true, true, true, false, false, false, false, false, false, false, false, false, false, false, false, false, false, false, false, false, false, false, false, false, false, false, false, false, false, false, false, false]) (t' := ?t2) rfl rfl (by kernel_rfl) (by rfl) (fun _ _ _ h => h) hS1 rfl ?ht2 ?rest2; case ht2 => (simp only [List.setIfInBounds_toArray, List.set_cons_zero, List.set_cons_succ]; with_reducible rfl))
                first | (refine held_take' 3 66 (listed' := #[true, true, true, true, false, false, false, false, false, false, false, false, false, false, false, false, false, false, false, false, false, false, false, false, false, false, false, false, false, false, false, false]) (v := ?v3) (t' := ?t3) rfl rfl (by kernel_rfl) (by rfl) ?hv3 (fun _ _ _ h => h) hS1 rfl ?ht3 ?rest3; (case hv3 => (intro W' hW'; have q0 := hW'.cell g0 (by simp); have q1 := hW'.cell g1 (by simp); have q2 := hW'.cell b0 (by simp); have q3 := hW'.cell b1 (by simp); go_simp; try with_reducible rfl)); case ht3 => (simp only [List.setIfInBounds_toArray, List.set_cons_zero, List.set_cons_succ]; with_reducible rfl)) | (refine held_skip' 3 66 (listed' := #[true, true, true, true, false, false, false, false, false, false, false, false, false, false, false, false, false, false, false, false, false, false, false, false, false, false, false, false, false, false, false, false]) (t' := ?t3) rfl rfl (by kernel_rfl) (by rfl) (fun _ _ _ h => h) hS1 rfl ?ht3 ?rest3; case ht3 => (simp only [List.setIfInBounds_toArray, List.set_cons_zero, List.set_cons_succ]; with_reducible rfl))
                first | (refine held_take' 4 67 (listed' := #[true, true, true, true, true, false, false, false, false, false, false, false, false, false, false, false, false, false, false, false, false, false, false, false, false, false, false, false, false, false, false, false]) (v := ?v4) (t' := ?t4) rfl rfl (by kernel_rfl) (by rfl) ?hv4 (fun _ _ _ h => h) hS1 rfl ?ht4 ?rest4; (case hv4 => (intro W' hW'; have q0 := hW'.cell g0 (by simp); have q1 := hW'.cell g1 (by simp); have q2 := hW'.cell b0 (by simp); have q3 := hW'.cell b1 (by simp); go_simp; try with_reducible rfl)); case ht4 => (simp only [List.setIfInBounds_toArray, List.set_cons_zero, List.set_cons_succ]; with_reducible rfl)) | (refine held_skip' 4 67 (listed' := #[true, true, true, true, true, false, false, false, false, false, false, false, false, false, false, false, false, false, false, false, false, false, false, false, false, false, false, false, false, false, false, false]) (t' := ?t4) rfl rfl (by kernel_rfl) (by rfl) (fun _ _ _ h => h) hS1 rfl ?ht4 ?rest4; case ht4 => (simp only [List.setIfInBounds_toArray, List.set_cons_zero, List.set_cons_succ]; with_reducible rfl))
                first | (refine held_take' 5 68 (listed' := #[true, true, true, true, true, true, false, false, false, false, false, false, false, false, false, false, false, false, false, false, false, false, false, false, false, false, false, false, false, false, false, false]) (v := ?v5) (t' := ?t5) rfl rfl (by kernel_rfl) (by rfl) ?hv5 (fun _ _ _ h => h) hS1 rfl ?ht5 ?rest5; (case hv5 => (intro W' hW'; have q0 := hW'.cell g0 (by simp); have q1 := hW'.cell g1 (by simp); have q2 := hW'.cell b0 (by simp); have q3 := hW'.cell b1 (by simp); go_simp; try with_reducible rfl)); case ht5 => (simp only [List.setIfInBounds_toArray, List.set_cons_zero, List.set_cons_succ]; with_reducible rfl)) | (refine held_skip' 5 68 (listed' := #[true, true, true, true, true, true, false, false, false, false, false, false, false, false, false, false, false, false, false, false, false, false, false, false, false, false, false, false, false, false, false, false]) (t' := ?t5) rfl rfl (by kernel_rfl) (by rfl) (fun _ _ _ h => h) hS1 rfl ?ht5 ?rest5; case ht5 => (simp only [List.setIfInBounds_toArray, List.set_cons_zero, List.set_cons_succ]; with_reducible rfl))
                first | (refine held_take' 6 69 (listed' := #[true, true, true, true, true, true, true, false, false, false, false, false, false, false, false, false, false, false, false, false, false, false, false, false, false, false, false, false, false, false, false, false]) (v := ?v6) (t' := ?t6) rfl rfl (by kernel_rfl) (by rfl) ?hv6 (fun _ _ _ h => h) hS1 rfl ?ht6 ?rest6; (case hv6 => (intro W' hW'; have q0 := hW'.cell g0 (by simp); have q1 := hW'.cell g1 (by simp); have q2 := hW'.cell b0 (by simp); have q3 := hW'.cell b1 (by simp); go_simp; try with_reducible rfl)); case ht6 => (simp only [List.setIfInBounds_toArray, List.set_cons_zero, List.set_cons_succ]; with_reducible rfl)) | (refine held_skip' 6 69 (listed' := #[true, true, true, true, true, true, true, false, false, false, false, false, false, false, false, false, false, false, false, false, false, false, false, false, false, false, false, false, false, false, false, false]) (t' := ?t6) rfl rfl (by kernel_rfl) (by rfl) (fun _ _ _ h => h) hS1 rfl ?ht6 ?rest6; case ht6 => (simp only [List.setIfInBounds_toArray, List.set_cons_zero, List.set_cons_succ]; with_reducible rfl))
                first | (refine held_take' 7 70 (listed' := #[true, true, true, true, true, true, true, true, false, false, false, false, false, false, false, false, false, false, false, false, false, false, false, false, false, false, false, false, false, false, false, false]) (v := ?v7) (t' := ?t7) rfl rfl (by kernel_rfl) (by rfl) ?hv7 (fun _ _ _ h => h) hS1 rfl ?ht7 ?rest7; (case hv7 => (intro W' hW'; have q0 := hW'.cell g0 (by simp); have q1 := hW'.cell g1 (by simp); have q2 := hW'.cell b0 (by simp); have q3 := hW'.cell b1 (by simp); go_simp; try with_reducible rfl)); case ht7 => (simp only [List.setIfInBounds_toArray, List.set_cons_zero, List.set_cons_succ]; with_reducible rfl)) | (refine held_skip' 7 70 (listed' := #[true, true, true, true, true, true, true, true, false, false, false, false, false, false, false, false, false, false, false, false, false, false, false, false, false, false, false, false, false, false, false, false]) (t' := ?t7) rfl rfl (by kernel_rfl) (by rfl) (fun _ _ _ h => h) hS1 rfl ?ht7 ?rest7; case ht7 => (simp only [List.setIfInBounds_toArray, List.set_cons_zero, List.set_cons_succ]; with_reducible rfl))
                first | (refine held_take' 8 71 (listed' := #[true, true, true, true, true, true, true, true, true, false, false, false, false, false, false, false, false, false, false, false, false, false, false, false, false, false, false, false, false, false, false, false]) (v := ?v8) (t' := ?t8) rfl rfl (by kernel_rfl) (by rfl) ?hv8 (fun _ _ _ h => h) hS1 rfl ?ht8 ?rest8; (case hv8 => (intro W' hW'; have q0 := hW'.cell g0 (by simp); have q1 := hW'.cell g1 (by simp); have q2 := hW'.cell b0 (by simp); have q3 := hW'.cell b1 (by simp); go_simp; try with_reducible rfl)); case ht8 => (simp only [List.setIfInBounds_toArray, List.set_cons_zero, List.set_cons_succ]; with_reducible rfl)) | (refine held_skip' 8 71 (listed' := #[true, true, true, true, true, true, true, true, true, false, false, false, false, false, false, false, false, false, false, false, false, false, false, false, false, false, false, false, false, false, false, false]) (t' := ?t8) rfl rfl (by kernel_rfl) (by rfl) (fun _ _ _ h => h) hS1 rfl ?ht8 ?rest8; case ht8 => (simp only [List.setIfInBounds_toArray, List.set_cons_zero, List.set_cons_succ]; with_reducible rfl))
                first | (refine held_take' 9 72 (listed' := #[true, true, true, true, true, true, true, true, true, true, false, false, false, false, false, false, false, false, false, false, false, false, false, false, false, false, false, false, false, false, false, false]) (v := ?v9) (t' := ?t9) rfl rfl (by kernel_rfl) (by rfl) ?hv9 (fun _ _ _ h => h) hS1 rfl ?ht9 ?rest9; (case hv9 => (intro W' hW'; have q0 := hW'.cell g0 (by simp); have q1 := hW'.cell g1 (by simp); have q2 := hW'.cell b0 (by simp); have q3 := hW'.cell b1 (by simp); go_simp; try with_reducible rfl)); case ht9 => (simp only [List.setIfInBounds_toArray, List.set_cons_zero, List.set_cons_succ]; with_reducible rfl)) | (refine held_skip' 9 72 (listed' := #[true, true, true, true, true, true, true, true, true, true, false, false, false, false, false, false, false, false, false, false, false, false, false, false, false, false, false, false, false, false, false, false]) (t' := ?t9) rfl rfl (by kernel_rfl) (by rfl) (fun _ _ _ h => h) hS1 rfl ?ht9 ?rest9; case ht9 => (simp only [List.setIfInBounds_toArray, List.set_cons_zero, List.set_cons_succ]; with_reducible rfl))
                first | (refine held_take' 10 73 (listed' := #[true, true, true, true, true, true, true, true, true, true, true, false, false, false, false, false, false, false, false, false, false, false, false, false, false, false, false, false, false, false, false, false]) (v := ?v10) (t' := ?t10) rfl rfl (by kernel_rfl) (by rfl) ?hv10 (fun _ _ _ h => h) hS1 rfl ?ht10 ?rest10; (case hv10 => (intro W' hW'; have q0 := hW'.cell g0 (by simp); have q1 := hW'.cell g1 (by simp); have q2 := hW'.cell b0 (by simp); have q3 := hW'.cell b1 (by simp); go_simp; try with_reducible rfl)); case ht10 => (simp only [List.setIfInBounds_toArray, List.set_cons_zero, List.set_cons_succ]; with_reducible rfl)) | (refine held_skip' 10 73 (listed' := #[true, true, true, true, true, true, true, true, true, true, true, false, false, false, false, false, false, false, false, false, false, false, false, false, false, false, false, false, false, false, false, false]) (t' := ?t10) rfl rfl (by kernel_rfl) (by rfl) (fun _ _ _ h => h) hS1 rfl ?ht10 ?rest10; case ht10 => (simp only [List.setIfInBounds_toArray, List.set_cons_zero, List.set_cons_succ]; with_reducible rfl))
                first | (refine held_take' 11 74 (listed' := #[true, true, true, true, true, true, true, true, true, true, true, true, false, false, false, false, false, false, false, false, false, false, false, false, false, false, false, false, false, false, false, false]) (v := ?v11) (t' := ?t11) rfl rfl (by kernel_rfl) (by rfl) ?hv11 (fun _ _ _ h => h) hS1 rfl ?ht11 ?rest11; (case hv11 => (intro W' hW'; have q0 := hW'.cell g0 (by simp); have q1 := hW'.cell g1 (by simp); have q2 := hW'.cell b0 (by simp); have q3 := hW'.cell b1 (by simp); go_simp; try with_reducible rfl)); case ht11 => (simp only [List.setIfInBounds_toArray, List.set_cons_zero, List.set_cons_succ]; with_reducible rfl)) | (refine held_skip' 11 74 (listed' := #[true, true, true, true, true, true, true, true, true, true, true, true, false, false, false, false, false, false, false, false, false, false, false, false, false, false, false, false, false, false, false, false]) (t' := ?t11) rfl rfl (by kernel_rfl) (by rfl) (fun _ _ _ h => h) hS1 rfl ?ht11 ?rest11; case ht11 => (simp only [List.setIfInBounds_toArray, List.set_cons_zero, List.set_cons_succ]; with_reducible rfl))
                first | (refine held_take' 12 75 (listed' := #[true, true, true, true, true, true, true, true, true, true, true, true, true, false, false, false, false, false, false, false, false, false, false, false, false, false, false, false, false, false, false, false]) (v := ?v12) (t' := ?t12) rfl rfl (by kernel_rfl) (by rfl) ?hv12 (fun _ _ _ h => h) hS1 rfl ?ht12 ?rest12; (case hv12 => (intro W' hW'; have q0 := hW'.cell g0 (by simp); have q1 := hW'.cell g1 (by simp); have q2 := hW'.cell b0 (by simp); have q3 := hW'.cell b1 (by simp); go_simp; try with_reducible rfl)); case ht12 => (simp only [List.setIfInBounds_toArray, List.set_cons_zero, List.set_cons_succ]; with_reducible rfl)) | (refine held_skip' 12 75 (listed' := #[true, true, true, true, true, true, true, true, true, true, true, true, true, false, false, false, false, false, false, false, false, false, false, false, false, false, false, false, false, false, false, false]) (t' := ?t12) rfl rfl (by kernel_rfl) (by rfl) (fun _ _ _ h => h) hS1 rfl ?ht12 ?rest12; case ht12 => (simp only [List.setIfInBounds_toArray, List.set_cons_zero, List.set_cons_succ]; with_reducible rfl))
                first | (refine held_take' 13 76 (listed' := #[true, true, true, true, true, true, true, true, true, true, true, true, true, true, false, false, false, false, false, false, false, false, false, false, false, false, false, false, false, false, false, false]) (v := ?v13) (t' := ?t13) rfl rfl (by kernel_rfl) (by rfl) ?hv13 (fun _ _ _ h => h) hS1 rfl ?ht13 ?rest13; (case hv13 => (intro W' hW'; have q0 := hW'.cell g0 (by simp); have q1 := hW'.cell g1 (by simp); have q2 := hW'.cell b0 (by simp); have q3 := hW'.cell b1 (by simp); go_simp; try with_reducible rfl)); case ht13 => (simp only [List.setIfInBounds_toArray, List.set_cons_zero, List.set_cons_succ]; with_reducible rfl)) | (refine held_skip' 13 76 (listed' := #[true, true, true, true, true, true, true, true, true, true, true, true, true, true, false, false, false, false, false, false, false, false, false, false, false, false, false, false, false, false, false, false]) (t' := ?t13) rfl rfl (by kernel_rfl) (by rfl) (fun _ _ _ h => h) hS1 rfl ?ht13 ?rest13; case ht13 => (simp only [List.setIfInBounds_toArray, List.set_cons_zero, List.set_cons_succ]; with_reducible rfl))
                first | (refine held_take' 14 77 (listed' := #[true, true, true, true, true, true, true, true, true, true, true, true, true, true, true, false, false, false, false, false, false, false, false, false, false, false, false, false, false, false, false, false]) (v := ?v14) (t' := ?t14) rfl rfl (by kernel_rfl) (by rfl) ?hv14 (fun _ _ _ h => h) hS1 rfl ?ht14 ?rest14; (case hv14 => (intro W' hW'; have q0 := hW'.cell g0 (by simp); have q1 := hW'.cell g1 (by simp); have q2 := hW'.cell b0 (by simp); have q3 := hW'.cell b1 (by simp); go_simp; try with_reducible rfl)); case ht14 => (simp only [List.setIfInBounds_toArray, List.set_cons_zero, List.set_cons_succ]; with_reducible rfl)) | (refine held_skip' 14 77 (listed' := #[true, true, true, true, true, true, true, true, true, true, true, true, true, true, true, false, false, false, false, false, false, false, false, false, false, false, false, false, false, false, false, false]) (t' := ?t14) rfl rfl (by kernel_rfl) (by rfl) (fun _ _ _ h => h) hS1 rfl ?ht14 ?rest14; case ht14 => (simp only [List.setIfInBounds_toArray, List.set_cons_zero, List.set_cons_succ]; with_reducible rfl))
                first | (refine held_take' 15 78 (listed' := #[true, true, true, true, true, true, true, true, true, true, true, true, true, true, true, true, false, false, false, false, false, false, false, false, false, false, false, false, false, false, false, false]) (v := ?v15) (t' := ?t15) rfl rfl (by kernel_rfl) (by rfl) ?hv15 (fun _ _ _ h => h) hS1 rfl ?ht15 ?rest15; (case hv15 => (intro W' hW'; have q0 := hW'.cell g0 (by simp); have q1 := hW'.cell g1 (by simp); have q2 := hW'.cell b0 (by simp); have q3 := hW'.cell b1 (by simp); go_simp; try with_reducible rfl)); case ht15 => (simp only [List.setIfInBounds_toArray, List.set_cons_zero, List.set_cons_succ]; with_reducible rfl)) | (refine held_skip' 15 78 (listed' := #[true, true, true, true, true, true, true, true, true, true, true, true, true, true, true, true, false, false, false, false, false, false, false, false, false, false, false, false, false, false, false, false]) (t' := ?t15) rfl rfl (by kernel_rfl) (by rfl) (fun _ _ _ h => h) hS1 rfl ?ht15 ?rest15; case ht15 => (simp only [List.setIfInBounds_toArray, List.set_cons_zero, List.set_cons_succ]; with_reducible rfl))
                first | (refine held_take' 16 79 (listed' := #[true, true, true, true, true, true, true, true, true, true, true, true, true, true, true, true, true, false, false, false, false, false, false, false, false, false, false, false, false, false, false, false]) (v := ?v16) (t' := ?t16) rfl rfl (by kernel_rfl) (by rfl) ?hv16 (fun _ _ _ h => h) hS1 rfl ?ht16 ?rest16; (case hv16 => (intro W' hW'; have q0 := hW'.cell g0 (by simp); have q1 := hW'.cell g1 (by simp); have q2 := hW'.cell b0 (by simp); have q3 := hW'.cell b1 (by simp); go_simp; try with_reducible rfl)); case ht16 => (simp only [List.setIfInBounds_toArray, List.set_cons_zero, List.set_cons_succ]; with_reducible rfl)) | (refine held_skip' 16 79 (listed' := #[true, true, true, true, true, true, true, true, true, true, true, true, true, true, true, true, true, false, false, false, false, false, false, false, false, false, false, false, false, false, false, false]) (t' := ?t16) rfl rfl (by kernel_rfl) (by rfl) (fun _ _ _ h => h) hS1 rfl ?ht16 ?rest16; case ht16 => (simp only [List.setIfInBounds_toArray, List.set_cons_zero, List.set_cons_succ]; with_reducible rfl))
                first | (refine held_take' 17 80 (listed' := #[true, true, true, true, true, true, true, true, true, true, true, true, true, true, true, true, true, true, false, false, false, false, false, false, false, false, false, false, false, false, false, false]) (v := ?v17) (t' := ?t17) rfl rfl (by kernel_rfl) (by rfl) ?hv17 (fun _ _ _ h => h) hS1 rfl ?ht17 ?rest17; (case hv17 => (intro W' hW'; have q0 := hW'.cell g0 (by simp); have q1 := hW'.cell g1 (by simp); have q2 := hW'.cell b0 (by simp); have q3 := hW'.cell b1 (by simp); go_simp; try with_reducible rfl)); case ht17 => (simp only [List.setIfInBounds_toArray, List.set_cons_zero, List.set_cons_succ]; with_reducible rfl)) | (refine held_skip' 17 80 (listed' := #[true, true, true, true, true, true, true, true, true, true, true, true, true, true, true, true, true, true, false, false, false, false, false, false, false, false, false, false, false, false, false, false]) (t' := ?t17) rfl rfl (by kernel_rfl) (by rfl) (fun _ _ _ h => h) hS1 rfl ?ht17 ?rest17; case ht17 => (simp only [List.setIfInBounds_toArray, List.set_cons_zero, List.set_cons_succ]; with_reducible rfl))
                first | (refine held_take' 18 81 (listed' := #[true, true, true, true, true, true, true, true, true, true, true, true, true, true, true, true, true, true, true, false, false, false, false, false, false, false, false, false, false, false, false, false]) (v := ?v18) (t' := ?t18) rfl rfl (by kernel_rfl) (by rfl) ?hv18 (fun _ _ _ h => h) hS1 rfl ?ht18 ?rest18; (case hv18 => (intro W' hW'; have q0 := hW'.cell g0 (by simp); have q1 := hW'.cell g1 (by simp); have q2 := hW'.cell b0 (by simp); have q3 := hW'.cell b1 (by simp); go_simp; try with_reducible rfl)); case ht18 => (simp only [List.setIfInBounds_toArray, List.set_cons_zero, List.set_cons_succ]; with_reducible rfl)) | (refine held_skip' 18 81 (listed' := #[true, true, true, true, true, true, true, true, true, true, true, true, true, true, true, true, true, true, true, false, false, false, false, false, false, false, false, false, false, false, false, false]) (t' := ?t18) rfl rfl (by kernel_rfl) (by rfl) (fun _ _ _ h => h) hS1 rfl ?ht18 ?rest18; case ht18 => (simp only [List.setIfInBounds_toArray, List.set_cons_zero, List.set_cons_succ]; with_reducible rfl))
                first | (refine held_take' 19 82 (listed' := #[true, true, true, true, true, true, true, true, true, true, true, true, true, true, true, true, true, true, true, true, false, false, false, false, false, false, false, false, false, false, false, false]) (v := ?v19) (t' := ?t19) rfl rfl (by kernel_rfl) (by rfl) ?hv19 (fun _ _ _ h => h) hS1 rfl ?ht19 ?rest19; (case hv19 => (intro W' hW'; have q0 := hW'.cell g0 (by simp); have q1 := hW'.cell g1 (by simp); have q2 := hW'.cell b0 (by simp); have q3 := hW'.cell b1 (by simp); go_simp; try with_reducible rfl)); case ht19 => (simp only [List.setIfInBounds_toArray, List.set_cons_zero, List.set_cons_succ]; with_reducible rfl)) | (refine held_skip' 19 82 (listed' := #[true, true, true, true, true, true, true, true, true, true, true, true, true, true, true, true, true, true, true, true, false, false, false, false, false, false, false, false, false, false, false, false]) (t' := ?t19) rfl rfl (by kernel_rfl) (by rfl) (fun _ _ _ h => h) hS1 rfl ?ht19 ?rest19; case ht19 => (simp only [List.setIfInBounds_toArray, List.set_cons_zero, List.set_cons_succ]; with_reducible rfl))
                first | (refine held_take' 20 83 (listed' := #[true, true, true, true, true, true, true, true, true, true, true, true, true, true, true, true, true, true, true, true, true, false, false, false, false, false, false, false, false, false, false, false]) (v := ?v20) (t' := ?t20) rfl rfl (by kernel_rfl) (by rfl) ?hv20 (fun _ _ _ h => h) hS1 rfl ?ht20 ?rest20; (case hv20 => (intro W' hW'; have q0 := hW'.cell g0 (by simp); have q1 := hW'.cell g1 (by simp); have q2 := hW'.cell b0 (by simp); have q3 := hW'.cell b1 (by simp); go_simp; try with_reducible rfl)); case ht20 => (simp only [List.setIfInBounds_toArray, List.set_cons_zero, List.set_cons_succ]; with_reducible rfl)) | (refine held_skip' 20 83 (listed' := #[true, true, true, true, true, true, true, true, true, true, true, true, true, true, true, true, true, true, true, true, true, false, false, false, false, false, false, false, false, false, false, false]) (t' := ?t20) rfl rfl (by kernel_rfl) (by rfl) (fun _ _ _ h => h) hS1 rfl ?ht20 ?rest20; case ht20 => (simp only [List.setIfInBounds_toArray, List.set_cons_zero, List.set_cons_succ]; with_reducible rfl))
                first | (refine held_take' 21 84 (listed' := #[true, true, true, true, true, true, true, true, true, true, true, true, true, true, true, true, true, true, true, true, true, true, false, false, false, false, false, false, false, false, false, false]) (v := ?v21) (t' := ?t21) rfl rfl (by kernel_rfl) (by rfl) ?hv21 (fun _ _ _ h => h) hS1 rfl ?ht21 ?rest21; (case hv21 => (intro W' hW'; have q0 := hW'.cell g0 (by simp); have q1 := hW'.cell g1 (by simp); have q2 := hW'.cell b0 (by simp); have q3 := hW'.cell b1 (by simp); go_simp; try with_reducible rfl)); case ht21 => (simp only [List.setIfInBounds_toArray, List.set_cons_zero, List.set_cons_succ]; with_reducible rfl)) | (refine held_skip' 21 84 (listed' := #[true, true, true, true, true, true, true, true, true, true, true, true, true, true, true, true, true, true, true, true, true, true, false, false, false, false, false, false, false, false, false, false]) (t' := ?t21) rfl rfl (by kernel_rfl) (by rfl) (fun _ _ _ h => h) hS1 rfl ?ht21 ?rest21; case ht21 => (simp only [List.setIfInBounds_toArray, List.set_cons_zero, List.set_cons_succ]; with_reducible rfl))
                first | (refine held_take' 22 85 (listed' := #[true, true, true, true, true, true, true, true, true, true, true, true, true, true, true, true, true, true, true, true, true, true, true, false, false, false, false, false, false, false, false, false]) (v := ?v22) (t' := ?t22) rfl rfl (by kernel_rfl) (by rfl) ?hv22 (fun _ _ _ h => h) hS1 rfl ?ht22 ?rest22; (case hv22 => (intro W' hW'; have q0 := hW'.cell g0 (by simp); have q1 := hW'.cell g1 (by simp); have q2 := hW'.cell b0 (by simp); have q3 := hW'.cell b1 (by simp); go_simp; try with_reducible rfl)); case ht22 => (simp only [List.setIfInBounds_toArray, List.set_cons_zero, List.set_cons_succ]; with_reducible rfl)) | (refine held_skip' 22 85 (listed' := #[true, true, true, true, true, true, true, true, true, true, true, true, true, true, true, true, true, true, true, true, true, true, true, false, false, false, false, false, false, false, false, false]) (t' := ?t22) rfl rfl (by kernel_rfl) (by rfl) (fun _ _ _ h => h) hS1 rfl ?ht22 ?rest22; case ht22 => (simp only [List.setIfInBounds_toArray, List.set_cons_zero, List.set_cons_succ]; with_reducible rfl))
                first | (refine held_take' 23 86 (listed' := #[true, true, true, true, true, true, true, true, true, true, true, true, true, true, true, true, true, true, true, true, true, true, true, true, false, false, false, false, false, false, false, false]) (v := ?v23) (t' := ?t23) rfl rfl (by kernel_rfl) (by rfl) ?hv23 (fun _ _ _ h => h) hS1 rfl ?ht23 ?rest23; (case hv23 => (intro W' hW'; have q0 := hW'.cell g0 (by simp); have q1 := hW'.cell g1 (by simp); have q2 := hW'.cell b0 (by simp); have q3 := hW'.cell b1 (by simp); go_simp; try with_reducible rfl)); case ht23 => (simp only [List.setIfInBounds_toArray, List.set_cons_zero, List.set_cons_succ]; with_reducible rfl)) | (refine held_skip' 23 86 (listed' := #[true, true, true, true, true, true, true, true, true, true, true, true, true, true, true, true, true, true, true, true, true, true, true, true, false, false, false, false, false, false, false, false]) (t' := ?t23) rfl rfl (by kernel_rfl) (by rfl) (fun _ _ _ h => h) hS1 rfl ?ht23 ?rest23; case ht23 => (simp only [List.setIfInBounds_toArray, List.set_cons_zero, List.set_cons_succ]; with_reducible rfl))
                first | (refine held_take' 24 87 (listed' := #[true, true, true, true, true, true, true, true, true, true, true, true, true, true, true, true, true, true, true, true, true, true, true, true, true, false, false, false, false, false, false, false]) (v := ?v24) (t' := ?t24) rfl rfl (by kernel_rfl) (by rfl) ?hv24 (fun _ _ _ h => h) hS1 rfl ?ht24 ?rest24; (case hv24 => (intro W' hW'; have q0 := hW'.cell g0 (by simp); have q1 := hW'.cell g1 (by simp); have q2 := hW'.cell b0 (by simp); have q3 := hW'.cell b1 (by simp); go_simp; try with_reducible rfl)); case ht24 => (simp only [List.setIfInBounds_toArray, List.set_cons_zero, List.set_cons_succ]; with_reducible rfl)) | (refine held_skip' 24 87 (listed' := #[true, true, true, true, true, true, true, true, true, true, true, true, true, true, true, true, true, true, true, true, true, true, true, true, true, false, false, false, false, false, false, false]) (t' := ?t24) rfl rfl (by kernel_rfl) (by rfl) (fun _ _ _ h => h) hS1 rfl ?ht24 ?rest24; case ht24 => (simp only [List.setIfInBounds_toArray, List.set_cons_zero, List.set_cons_succ]; with_reducible rfl))
                first | (refine held_take' 25 88 (listed' := #[true, true, true, true, true, true, true, true, true, true, true, true, true, true, true, true, true, true, true, true, true, true, true, true, true, true, false, false, false, false, false, false]) (v := ?v25) (t' := ?t25) rfl rfl (by kernel_rfl) (by rfl) ?hv25 (fun _ _ _ h => h) hS1 rfl ?ht25 ?rest25; (case hv25 => (intro W' hW'; have q0 := hW'.cell g0 (by simp); have q1 := hW'.cell g1 (by simp); have q2 := hW'.cell b0 (by simp); have q3 := hW'.cell b1 (by simp); go_simp; try with_reducible rfl)); case ht25 => (simp only [List.setIfInBounds_toArray, List.set_cons_zero, List.set_cons_succ]; with_reducible rfl)) | (refine held_skip' 25 88 (listed' := #[true, true, true, true, true, true, true, true, true, true, true, true, true, true, true, true, true, true, true, true, true, true, true, true, true, true, false, false, false, false, false, false]) (t' := ?t25) rfl rfl (by kernel_rfl) (by rfl) (fun _ _ _ h => h) hS1 rfl ?ht25 ?rest25; case ht25 => (simp only [List.setIfInBounds_toArray, List.set_cons_zero, List.set_cons_succ]; with_reducible rfl))
                first | (refine held_take' 28 91 (listed' := #[true, true, true, true, true, true, true, true, true, true, true, true, true, true, true, true, true, true, true, true, true, true, true, true, true, true, false, false, true, false, false, false]) (v := ?v26) (t' := ?t26) rfl rfl (by kernel_rfl) (by rfl) ?hv26 (fun _ _ _ h => h) hS1 rfl ?ht26 ?rest26; (case hv26 => (intro W' hW'; have q0 := hW'.cell g0 (by simp); have q1 := hW'.cell g1 (by simp); have q2 := hW'.cell b0 (by simp); have q3 := hW'.cell b1 (by simp); go_simp; try with_reducible rfl)); case ht26 => (simp only [List.setIfInBounds_toArray, List.set_cons_zero, List.set_cons_succ]; with_reducible rfl)) | (refine held_skip' 28 91 (listed' := #[true, true, true, true, true, true, true, true, true, true, true, true, true, true, true, true, true, true, true, true, true, true, true, true, true, true, false, false, true, false, false, false]) (t' := ?t26) rfl rfl (by kernel_rfl) (by rfl) (fun _ _ _ h => h) hS1 rfl ?ht26 ?rest26; case ht26 => (simp only [List.setIfInBounds_toArray, List.set_cons_zero, List.set_cons_succ]; with_reducible rfl))
                first | (refine held_take' 29 92 (listed' := #[true, true, true, true, true, true, true, true, true, true, true, true, true, true, true, true, true, true, true, true, true, true, true, true, true, true, false, false, true, true, false, false]) (v := ?v27) (t' := ?t27) rfl rfl (by kernel_rfl) (by rfl) ?hv27 (fun _ _ _ h => h) hS1 rfl ?ht27 ?rest27; (case hv27 => (intro W' hW'; have q0 := hW'.cell g0 (by simp); have q1 := hW'.cell g1 (by simp); have q2 := hW'.cell b0 (by simp); have q3 := hW'.cell b1 (by simp); go_simp; try with_reducible rfl)); case ht27 => (simp only [List.setIfInBounds_toArray, List.set_cons_zero, List.set_cons_succ]; with_reducible rfl)) | (refine held_skip' 29 92 (listed' := #[true, true, true, true, true, true, true, true, true, true, true, true, true, true, true, true, true, true, true, true, true, true, true, true, true, true, false, false, true, true, false, false]) (t' := ?t27) rfl rfl (by kernel_rfl) (by rfl) (fun _ _ _ h => h) hS1 rfl ?ht27 ?rest27; case ht27 => (simp only [List.setIfInBounds_toArray, List.set_cons_zero, List.set_cons_succ]; with_reducible rfl))
                refine held_one 26 rfl (by kernel_rfl) (by rfl) (fun K hK => ?_)
                go_simp
                refine (cG _ hS1).mono ?_
                rintro e w2 ⟨ua, uc, rfl, hv2⟩
                have hS2 := hS1.trans hv2
                refine hK.out _ _ hS2 ?_
                clear hK K
                show wpAnyH _ _ _ _ _ _ #[true, true, true, true, true, true, true, true, true, true, true, true, true, true, true, true, true, true, true, true, true, true, true, true, true, true, true, false, true, true, false, false] _ _
                first | (refine held_take' 27 90 (listed' := #[true, true, true, true, true, true, true, true, true, true, true, true, true, true, true, true, true, true, true, true, true, true, true, true, true, true, true, true, true, true, false, false]) (v := ?v28) (t' := ?t28) rfl rfl (by kernel_rfl) (by rfl) ?hv28 (fun _ _ _ h => h) hS2 rfl ?ht28 ?rest28; (case hv28 => (intro W' hW'; have q0 := hW'.cell g0 (by simp); have q1 := hW'.cell g1 (by simp); have q2 := hW'.cell b0 (by simp); have q3 := hW'.cell b1 (by simp); go_simp; try with_reducible rfl)); case ht28 => (simp only [List.setIfInBounds_toArray, List.set_cons_zero, List.set_cons_succ]; with_reducible rfl)) | (refine held_skip' 27 90 (listed' := #[true, true, true, true, true, true, true, true, true, true, true, true, true, true, true, true, true, true, true, true, true, true, true, true, true, true, true, true, true, true, false, false]) (t' := ?t28) rfl rfl (by kernel_rfl) (by rfl) (fun _ _ _ h => h) hS2 rfl ?ht28 ?rest28; case ht28 => (simp only [List.setIfInBounds_toArray, List.set_cons_zero, List.set_cons_succ]; with_reducible rfl))
                first | (refine held_take' 30 93 (listed' := #[true, true, true, true, true, true, true, true, true, true, true, true, true, true, true, true, true, true, true, true, true, true, true, true, true, true, true, true, true, true, true, false]) (v := ?v29) (t' := ?t29) rfl rfl (by kernel_rfl) (by rfl) ?hv29 (fun _ _ _ h => h) hS2 rfl ?ht29 ?rest29; (case hv29 => (intro W' hW'; have q0 := hW'.cell g0 (by simp); have q1 := hW'.cell g1 (by simp); have q2 := hW'.cell b0 (by simp); have q3 := hW'.cell b1 (by simp); go_simp; try with_reducible rfl)); case ht29 => (simp only [List.setIfInBounds_toArray, List.set_cons_zero, List.set_cons_succ]; with_reducible rfl)) | (refine held_skip' 30 93 (listed' := #[true, true, true, true, true, true, true, true, true, true, true, true, true, true, true, true, true, true, true, true, true, true, true, true, true, true, true, true, true, true, true, false]) (t' := ?t29) rfl rfl (by kernel_rfl) (by rfl) (fun _ _ _ h => h) hS2 rfl ?ht29 ?rest29; case ht29 => (simp only [List.setIfInBounds_toArray, List.set_cons_zero, List.set_cons_succ]; with_reducible rfl))
                first | (refine held_take' 31 94 (listed' := #[true, true, true, true, true, true, true, true, true, true, true, true, true, true, true, true, true, true, true, true, true, true, true, true, true, true, true, true, true, true, true, true]) (v := ?v30) (t' := ?t30) rfl rfl (by kernel_rfl) (by rfl) ?hv30 (fun _ _ _ h => h) hS2 rfl ?ht30 ?rest30; (case hv30 => (intro W' hW'; have q0 := hW'.cell g0 (by simp); have q1 := hW'.cell g1 (by simp); have q2 := hW'.cell b0 (by simp); have q3 := hW'.cell b1 (by simp); go_simp; try with_reducible rfl)); case ht30 => (simp only [List.setIfInBounds_toArray, List.set_cons_zero, List.set_cons_succ]; with_reducible rfl)) | (refine held_skip' 31 94 (listed' := #[true, true, true, true, true, true, true, true, true, true, true, true, true, true, true, true, true, true, true, true, true, true, true, true, true, true, true, true, true, true, true, true]) (t' := ?t30) rfl rfl (by kernel_rfl) (by rfl) (fun _ _ _ h => h) hS2 rfl ?ht30 ?rest30; case ht30 => (simp only [List.setIfInBounds_toArray, List.set_cons_zero, List.set_cons_succ]; with_reducible rfl))
                refine wpAnyH_done (by kernel_rfl) ?_ _
                by_cases hlim : (cnt : Int) ≤ x.limit
                · have hck' := hid (ckG_succ (by rw [HMs.out]; exact hlt2) hck.out (by rw [HX2.out, GOK.out _ _ _ ho HDn.out (decide_eq_true (by rw [HCnt.out]; exact hlim))]; rfl) (.inl hj0))
                  have hlm : ¬ x.limit < (cnt : Int) := by omega
                  clear ho hj0
                  go_wp2_with (fail)
                  go_roundw
                  case rel => exact ⟨j + 1, by omega, (by have hjz := HJ0.out; go_num), hck'.out, hcc.trans hS2, hS2.heap HBX.out (by simp)⟩
                  case measure => (have hjz := HJ0.out; simp [intOf]; omega)
                · obtain rfl : R = false := HR.out.symm.trans (bad_grp (k := j) (by rw [HMs.out]; exact hlt2) (by rw [HX2.out, GOK.out _ _ _ ho HDn.out (decide_eq_false (by rw [HCnt.out]; exact hlim))]; rfl))
                  have hlm : x.limit < (cnt : Int) := by omega
                  clear ho hlim hj0
                  go_wp2_with (fail)
                  go_ret
                  exact ⟨rfl, hcc.trans hS2⟩
              · obtain rfl : R = false := HR.out.symm.trans (bad_grp (k := j) (by rw [HMs.out]; exact hlt2) (by rw [HX2.out, GOK.out _ _ _ ho HDn.out rfl]; rfl))
                clear ho hj0
                have l0 := later_cell g0
                have l1 := later_cell g1
                have lb := later_cell b0
                have lb1 := later_cell b1
                clear g0 g1 b0 b1
                refine wp_region_later (by kernel_rfl) (by kernel_rfl) (Chg.refl [] W) ?_
                repeat (first | go_big_quiet_step ((go_at_call 43; exact later_calls (cV _))) | quiet_step ((go_at_call 43; exact later_calls (cV _))))
                refine wpQuiet_nil ?_
                rintro _ ⟨⟨W2, hW2⟩, rfl⟩
                go_wp2_with (fail)
                go_ret
                exact ⟨rfl, hcc.trans hW2⟩
            · obtain ⟨gb', gof', hbe, hgb', p0, -⟩ := HG.out (j - 1) hj5
              injection hbe with hbe
              injection hbe with hbe1 hbe2
              subst hbe1
              subst hbe2
              replace p0 := hcc.cell p0 (by simp)
              obtain ⟨Pv, hPv⟩ : ∃ P : ByteArray, (⟨(c.gs.getD (j - 1) default).base.toArray⟩ : ByteArray) = P := ⟨_, rfl⟩
              rw [hPv] at p0
              have HPn : Hid (Pv.data.toList = (c.gs.getD (j - 1) default).base) := by rw [← hPv]; rfl
              clear hPv
              by_cases hord : (c.gs.getD (j - 1) default).base < x.base
              · obtain ⟨f1, f2⟩ := le_facts (P := Pv) (X := X) (by rw [HPn.out, HXn.out]; exact hord)
                cases dn
                · -- named = false, a later group
                  have hwj : IntKind.i64.wrap ((j : Int) - 1) = (j : Int) - 1 := by rw [IntKind.wrap_i64]; omega
                  have hj1c : (1 : Int) ≤ (j : Int) := by omega
                  have cG : ∀ w', Chg [] W w' → Calls Tryd.prog 48 #[.agg #[.slice ea k ec, .slice (some ⟨gb, gof, none⟩) M gc], .string X] w' fun e w'' => ∃ a u, e = .returned (.slice a (gensS c.es x.base).length u) ∧ Chg [] w' w'' := fun w' hw' => by
                    refine (HGn.out X w' (by rw [← bs_len, HXn.out]; omega) (hcc.trans hw')).mono ?_
                    rintro e w'' ⟨u, rfl, hO, hch⟩
                    obtain ⟨a, cp, rfl⟩ := (RdK.of_own hO).shape
                    rw [HXn.out, idxG_length]
                    exact ⟨a, cp, rfl, hch⟩
                  obtain ⟨cnt, hcnt⟩ : ∃ n, (gensS c.es x.base).length = n := ⟨_, rfl⟩
                  rw [hcnt] at cG
                  have HCnt := hid hcnt
                  clear hcnt
                  refine region_held (S := fun w' => Chg [] W w') (by kernel_rfl) (n := 32) rfl (l := #[false, false, false, false, false, false, false, false, false, false, false, false, false, false, false, false, false, false, false, false, false, false, false, false, false, false, false, false, false, false, false, false]) rfl ?_
                  have hS0 : Chg [] W W.drew := Chg.drew [] W
                  first | (refine held_take' 0 63 (listed' := #[true, false, false, false, false, false, false, false, false, false, false, false, false, false, false, false, false, false, false, false, false, false, false, false, false, false, false, false, false, false, false, false]) (v := ?v31) (t' := ?t31) rfl rfl (by kernel_rfl) (by rfl) ?hv31 (fun _ _ _ h => h) hS0 rfl ?ht31 ?rest31; (case hv31 => (intro W' hW'; have q0 := hW'.cell g0 (by simp); have q1 := hW'.cell g1 (by simp); have q2 := hW'.cell b0 (by simp); have q3 := hW'.cell b1 (by simp); have q4 := hW'.cell p0 (by simp); go_simp; try with_reducible rfl)); case ht31 => (simp only [List.setIfInBounds_toArray, List.set_cons_zero, List.set_cons_succ]; with_reducible rfl)) | (refine held_skip' 0 63 (listed' := #[true, false, false, false, false, false, false, false, false, false, false, false, false, false, false, false, false, false, false, false, false, false, false, false, false, false, false, false, false, false, false, false]) (t' := ?t31) rfl rfl (by kernel_rfl) (by rfl) (fun _ _ _ h => h) hS0 rfl ?ht31 ?rest31; case ht31 => (simp only [List.setIfInBounds_toArray, List.set_cons_zero, List.set_cons_succ]; with_reducible rfl))
                  refine held_one 1 rfl (by kernel_rfl) (by rfl) (fun K hK => ?_)
                  go_simp
                  refine (cV _).mono ?_
                  rintro e w1 ⟨rfl, hv1⟩
                  have hS1 := hS0.trans hv1
                  refine hK.out _ _ hS1 ?_
                  clear hK K
                  show wpAnyH _ _ _ _ _ _ #[true, true, false, false, false, false, false, false, false, false, false, false, false, false, false, false, false, false, false, false, false, false, false, false, false, false, false, false, false, false, false, false] _ _
                  first | (refine held_take' 2 65 (listed' := #[true, true, true, false, false, false, false, false, false, false, false, false, false, false, false, false, false, false, false, false, false, false, false, false, false, false, false, false, false, false, false, false]) (v := ?v32) (t' := ?t32) rfl rfl (by kernel_rfl) (by rfl) ?hv32 (fun _ _ _ h => h) hS1 rfl ?ht32 ?rest32; (case hv32 => (intro W' hW'; have q0 := hW'.cell g0 (by simp); have q1 := hW'.cell g1 (by simp); have q2 := hW'.cell b0 (by simp); have q3 := hW'.cell b1 (by simp); have q4 := hW'.cell p0 (by simp); go_simp; try with_reducible rfl)); case ht32 => (simp only [List.setIfInBounds_toArray, List.set_cons_zero, List.set_cons_succ]; with_reducible rfl)) | (refine held_skip' 2 65 (listed' := #[true, true, true, false, false, false, false, false, false, false, false, false, false, false, false, false, false, false, false, false, false, false, false, false, false, false, false, false, false, false, false, false]) (t' := ?t32) rfl rfl (by kernel_rfl) (by rfl) (fun _ _ _ h => h) hS1 rfl ?ht32 ?rest32; case ht32 => (simp only [List.setIfInBounds_toArray, List.set_cons_zero, List.set_cons_succ]; with_reducible rfl))
                  first | (refine held_take' 3 66 (listed' := #[true, true, true, true, false, false, false, false, false, false, false, false, false, false, false, false, false, false, false, false, false, false, false, false, false, false, false, false, false, false, false, false]) (v := ?v33) (t' := ?t33) rfl rfl (by kernel_rfl) (by rfl) ?hv33 (fun _ _ _ h => h) hS1 rfl ?ht33 ?rest33; (case hv33 => (intro W' hW'; have q0 := hW'.cell g0 (by simp); have q1 := hW'.cell g1 (by simp); have q2 := hW'.cell b0 (by simp); have q3 := hW'.cell b1 (by simp); have q4 := hW'.cell p0 (by simp); go_simp; try with_reducible rfl)); case ht33 => (simp only [List.setIfInBounds_toArray, List.set_cons_zero, List.set_cons_succ]; with_reducible rfl)) | (refine held_skip' 3 66 (listed' := #[true, true, true, true, false, false, false, false, false, false, false, false, false, false, false, false, false, false, false, false, false, false, false, false, false, false, false, false, false, false, false, false]) (t' := ?t33) rfl rfl (by kernel_rfl) (by rfl) (fun _ _ _ h => h) hS1 rfl ?ht33 ?rest33; case ht33 => (simp only [List.setIfInBounds_toArray, List.set_cons_zero, List.set_cons_succ]; with_reducible rfl))
                  first | (refine held_take' 4 67 (listed' := #[true, true, true, true, true, false, false, false, false, false, false, false, false, false, false, false, false, false, false, false, false, false, false, false, false, false, false, false, false, false, false, false]) (v := ?v34) (t' := ?t34) rfl rfl (by kernel_rfl) (by rfl) ?hv34 (fun _ _ _ h => h) hS1 rfl ?ht34 ?rest34; (case hv34 => (intro W' hW'; have q0 := hW'.cell g0 (by simp); have q1 := hW'.cell g1 (by simp); have q2 := hW'.cell b0 (by simp); have q3 := hW'.cell b1 (by simp); have q4 := hW'.cell p0 (by simp); go_simp; try with_reducible rfl)); case ht34 => (simp only [List.setIfInBounds_toArray, List.set_cons_zero, List.set_cons_succ]; with_reducible rfl)) | (refine held_skip' 4 67 (listed' := #[true, true, true, true, true, false, false, false, false, false, false, false, false, false, false, false, false, false, false, false, false, false, false, false, false, false, false, false, false, false, false, false]) (t' := ?t34) rfl rfl (by kernel_rfl) (by rfl) (fun _ _ _ h => h) hS1 rfl ?ht34 ?rest34; case ht34 => (simp only [List.setIfInBounds_toArray, List.set_cons_zero, List.set_cons_succ]; with_reducible rfl))
                  first | (refine held_take' 5 68 (listed' := #[true, true, true, true, true, true, false, false, false, false, false, false, false, false, false, false, false, false, false, false, false, false, false, false, false, false, false, false, false, false, false, false]) (v := ?v35) (t' := ?t35) rfl rfl (by kernel_rfl) (by rfl) ?hv35 (fun _ _ _ h => h) hS1 rfl ?ht35 ?rest35; (case hv35 => (intro W' hW'; have q0 := hW'.cell g0 (by simp); have q1 := hW'.cell g1 (by simp); have q2 := hW'.cell b0 (by simp); have q3 := hW'.cell b1 (by simp); have q4 := hW'.cell p0 (by simp); go_simp; try with_reducible rfl)); case ht35 => (simp only [List.setIfInBounds_toArray, List.set_cons_zero, List.set_cons_succ]; with_reducible rfl)) | (refine held_skip' 5 68 (listed' := #[true, true, true, true, true, true, false, false, false, false, false, false, false, false, false, false, false, false, false, false, false, false, false, false, false, false, false, false, false, false, false, false]) (t' := ?t35) rfl rfl (by kernel_rfl) (by rfl) (fun _ _ _ h => h) hS1 rfl ?ht35 ?rest35; case ht35 => (simp only [List.setIfInBounds_toArray, List.set_cons_zero, List.set_cons_succ]; with_reducible rfl))
                  first | (refine held_take' 6 69 (listed' := #[true, true, true, true, true, true, true, false, false, false, false, false, false, false, false, false, false, false, false, false, false, false, false, false, false, false, false, false, false, false, false, false]) (v := ?v36) (t' := ?t36) rfl rfl (by kernel_rfl) (by rfl) ?hv36 (fun _ _ _ h => h) hS1 rfl ?ht36 ?rest36; (case hv36 => (intro W' hW'; have q0 := hW'.cell g0 (by simp); have q1 := hW'.cell g1 (by simp); have q2 := hW'.cell b0 (by simp); have q3 := hW'.cell b1 (by simp); have q4 := hW'.cell p0 (by simp); go_simp; try with_reducible rfl)); case ht36 => (simp only [List.setIfInBounds_toArray, List.set_cons_zero, List.set_cons_succ]; with_reducible rfl)) | (refine held_skip' 6 69 (listed' := #[true, true, true, true, true, true, true, false, false, false, false, false, false, false, false, false, false, false, false, false, false, false, false, false, false, false, false, false, false, false, false, false]) (t' := ?t36) rfl rfl (by kernel_rfl) (by rfl) (fun _ _ _ h => h) hS1 rfl ?ht36 ?rest36; case ht36 => (simp only [List.setIfInBounds_toArray, List.set_cons_zero, List.set_cons_succ]; with_reducible rfl))
                  first | (refine held_take' 7 70 (listed' := #[true, true, true, true, true, true, true, true, false, false, false, false, false, false, false, false, false, false, false, false, false, false, false, false, false, false, false, false, false, false, false, false]) (v := ?v37) (t' := ?t37) rfl rfl (by kernel_rfl) (by rfl) ?hv37 (fun _ _ _ h => h) hS1 rfl ?ht37 ?rest37; (case hv37 => (intro W' hW'; have q0 := hW'.cell g0 (by simp); have q1 := hW'.cell g1 (by simp); have q2 := hW'.cell b0 (by simp); have q3 := hW'.cell b1 (by simp); have q4 := hW'.cell p0 (by simp); go_simp; try with_reducible rfl)); case ht37 => (simp only [List.setIfInBounds_toArray, List.set_cons_zero, List.set_cons_succ]; with_reducible rfl)) | (refine held_skip' 7 70 (listed' := #[true, true, true, true, true, true, true, true, false, false, false, false, false, false, false, false, false, false, false, false, false, false, false, false, false, false, false, false, false, false, false, false]) (t' := ?t37) rfl rfl (by kernel_rfl) (by rfl) (fun _ _ _ h => h) hS1 rfl ?ht37 ?rest37; case ht37 => (simp only [List.setIfInBounds_toArray, List.set_cons_zero, List.set_cons_succ]; with_reducible rfl))
                  first | (refine held_take' 8 71 (listed' := #[true, true, true, true, true, true, true, true, true, false, false, false, false, false, false, false, false, false, false, false, false, false, false, false, false, false, false, false, false, false, false, false]) (v := ?v38) (t' := ?t38) rfl rfl (by kernel_rfl) (by rfl) ?hv38 (fun _ _ _ h => h) hS1 rfl ?ht38 ?rest38; (case hv38 => (intro W' hW'; have q0 := hW'.cell g0 (by simp); have q1 := hW'.cell g1 (by simp); have q2 := hW'.cell b0 (by simp); have q3 := hW'.cell b1 (by simp); have q4 := hW'.cell p0 (by simp); go_simp; try with_reducible rfl)); case ht38 => (simp only [List.setIfInBounds_toArray, List.set_cons_zero, List.set_cons_succ]; with_reducible rfl)) | (refine held_skip' 8 71 (listed' := #[true, true, true, true, true, true, true, true, true, false, false, false, false, false, false, false, false, false, false, false, false, false, false, false, false, false, false, false, false, false, false, false]) (t' := ?t38) rfl rfl (by kernel_rfl) (by rfl) (fun _ _ _ h => h) hS1 rfl ?ht38 ?rest38; case ht38 => (simp only [List.setIfInBounds_toArray, List.set_cons_zero, List.set_cons_succ]; with_reducible rfl))
                  first | (refine held_take' 9 72 (listed' := #[true, true, true, true, true, true, true, true, true, true, false, false, false, false, false, false, false, false, false, false, false, false, false, false, false, false, false, false, false, false, false, false]) (v := ?v39) (t' := ?t39) rfl rfl (by kernel_rfl) (by rfl) ?hv39 (fun _ _ _ h => h) hS1 rfl ?ht39 ?rest39; (case hv39 => (intro W' hW'; have q0 := hW'.cell g0 (by simp); have q1 := hW'.cell g1 (by simp); have q2 := hW'.cell b0 (by simp); have q3 := hW'.cell b1 (by simp); have q4 := hW'.cell p0 (by simp); go_simp; try with_reducible rfl)); case ht39 => (simp only [List.setIfInBounds_toArray, List.set_cons_zero, List.set_cons_succ]; with_reducible rfl)) | (refine held_skip' 9 72 (listed' := #[true, true, true, true, true, true, true, true, true, true, false, false, false, false, false, false, false, false, false, false, false, false, false, false, false, false, false, false, false, false, false, false]) (t' := ?t39) rfl rfl (by kernel_rfl) (by rfl) (fun _ _ _ h => h) hS1 rfl ?ht39 ?rest39; case ht39 => (simp only [List.setIfInBounds_toArray, List.set_cons_zero, List.set_cons_succ]; with_reducible rfl))
                  first | (refine held_take' 10 73 (listed' := #[true, true, true, true, true, true, true, true, true, true, true, false, false, false, false, false, false, false, false, false, false, false, false, false, false, false, false, false, false, false, false, false]) (v := ?v40) (t' := ?t40) rfl rfl (by kernel_rfl) (by rfl) ?hv40 (fun _ _ _ h => h) hS1 rfl ?ht40 ?rest40; (case hv40 => (intro W' hW'; have q0 := hW'.cell g0 (by simp); have q1 := hW'.cell g1 (by simp); have q2 := hW'.cell b0 (by simp); have q3 := hW'.cell b1 (by simp); have q4 := hW'.cell p0 (by simp); go_simp; try with_reducible rfl)); case ht40 => (simp only [List.setIfInBounds_toArray, List.set_cons_zero, List.set_cons_succ]; with_reducible rfl)) | (refine held_skip' 10 73 (listed' := #[true, true, true, true, true, true, true, true, true, true, true, false, false, false, false, false, false, false, false, false, false, false, false, false, false, false, false, false, false, false, false, false]) (t' := ?t40) rfl rfl (by kernel_rfl) (by rfl) (fun _ _ _ h => h) hS1 rfl ?ht40 ?rest40; case ht40 => (simp only [List.setIfInBounds_toArray, List.set_cons_zero, List.set_cons_succ]; with_reducible rfl))
                  first | (refine held_take' 11 74 (listed' := #[true, true, true, true, true, true, true, true, true, true, true, true, false, false, false, false, false, false, false, false, false, false, false, false, false, false, false, false, false, false, false, false]) (v := ?v41) (t' := ?t41) rfl rfl (by kernel_rfl) (by rfl) ?hv41 (fun _ _ _ h => h) hS1 rfl ?ht41 ?rest41; (case hv41 => (intro W' hW'; have q0 := hW'.cell g0 (by simp); have q1 := hW'.cell g1 (by simp); have q2 := hW'.cell b0 (by simp); have q3 := hW'.cell b1 (by simp); have q4 := hW'.cell p0 (by simp); go_simp; try with_reducible rfl)); case ht41 => (simp only [List.setIfInBounds_toArray, List.set_cons_zero, List.set_cons_succ]; with_reducible rfl)) | (refine held_skip' 11 74 (listed' := #[true, true, true, true, true, true, true, true, true, true, true, true, false, false, false, false, false, false, false, false, false, false, false, false, false, false, false, false, false, false, false, false]) (t' := ?t41) rfl rfl (by kernel_rfl) (by rfl) (fun _ _ _ h => h) hS1 rfl ?ht41 ?rest41; case ht41 => (simp only [List.setIfInBounds_toArray, List.set_cons_zero, List.set_cons_succ]; with_reducible rfl))
                  first | (refine held_take' 12 75 (listed' := #[true, true, true, true, true, true, true, true, true, true, true, true, true, false, false, false, false, false, false, false, false, false, false, false, false, false, false, false, false, false, false, false]) (v := ?v42) (t' := ?t42) rfl rfl (by kernel_rfl) (by rfl) ?hv42 (fun _ _ _ h => h) hS1 rfl ?ht42 ?rest42; (case hv42 => (intro W' hW'; have q0 := hW'.cell g0 (by simp); have q1 := hW'.cell g1 (by simp); have q2 := hW'.cell b0 (by simp); have q3 := hW'.cell b1 (by simp); have q4 := hW'.cell p0 (by simp); go_simp; try with_reducible rfl)); case ht42 => (simp only [List.setIfInBounds_toArray, List.set_cons_zero, List.set_cons_succ]; with_reducible rfl)) | (refine held_skip' 12 75 (listed' := #[true, true, true, true, true, true, true, true, true, true, true, true, true, false, false, false, false, false, false, false, false, false, false, false, false, false, false, false, false, false, false, false]) (t' := ?t42) rfl rfl (by kernel_rfl) (by rfl) (fun _ _ _ h => h) hS1 rfl ?ht42 ?rest42; case ht42 => (simp only [List.setIfInBounds_toArray, List.set_cons_zero, List.set_cons_succ]; with_reducible rfl))
                  first | (refine held_take' 13 76 (listed' := #[true, true, true, true, true, true, true, true, true, true, true, true, true, true, false, false, false, false, false, false, false, false, false, false, false, false, false, false, false, false, false, false]) (v := ?v43) (t' := ?t43) rfl rfl (by kernel_rfl) (by rfl) ?hv43 (fun _ _ _ h => h) hS1 rfl ?ht43 ?rest43; (case hv43 => (intro W' hW'; have q0 := hW'.cell g0 (by simp); have q1 := hW'.cell g1 (by simp); have q2 := hW'.cell b0 (by simp); have q3 := hW'.cell b1 (by simp); have q4 := hW'.cell p0 (by simp); go_simp; try with_reducible rfl)); case ht43 => (simp only [List.setIfInBounds_toArray, List.set_cons_zero, List.set_cons_succ]; with_reducible rfl)) | (refine held_skip' 13 76 (listed' := #[true, true, true, true, true, true, true, true, true, true, true, true, true, true, false, false, false, false, false, false, false, false, false, false, false, false, false, false, false, false, false, false]) (t' := ?t43) rfl rfl (by kernel_rfl) (by rfl) (fun _ _ _ h => h) hS1 rfl ?ht43 ?rest43; case ht43 => (simp only [List.setIfInBounds_toArray, List.set_cons_zero, List.set_cons_succ]; with_reducible rfl))
                  first | (refine held_take' 14 77 (listed' := #[true, true, true, true, true, true, true, true, true, true, true, true, true, true, true, false, false, false, false, false, false, false, false, false, false, false, false, false, false, false, false, false]) (v := ?v44) (t' := ?t44) rfl rfl (by kernel_rfl) (by rfl) ?hv44 (fun _ _ _ h => h) hS1 rfl ?ht44 ?rest44; (case hv44 => (intro W' hW'; have q0 := hW'.cell g0 (by simp); have q1 := hW'.cell g1 (by simp); have q2 := hW'.cell b0 (by simp); have q3 := hW'.cell b1 (by simp); have q4 := hW'.cell p0 (by simp); go_simp; try with_reducible rfl)); case ht44 => (simp only [List.setIfInBounds_toArray, List.set_cons_zero, List.set_cons_succ]; with_reducible rfl)) | (refine held_skip' 14 77 (listed' := #[true, true, true, true, true, true, true, true, true, true, true, true, true, true, true, false, false, false, false, false, false, false, false, false, false, false, false, false, false, false, false, false]) (t' := ?t44) rfl rfl (by kernel_rfl) (by rfl) (fun _ _ _ h => h) hS1 rfl ?ht44 ?rest44; case ht44 => (simp only [List.setIfInBounds_toArray, List.set_cons_zero, List.set_cons_succ]; with_reducible rfl))
                  first | (refine held_take' 15 78 (listed' := #[true, true, true, true, true, true, true, true, true, true, true, true, true, true, true, true, false, false, false, false, false, false, false, false, false, false, false, false, false, false, false, false]) (v := ?v45) (t' := ?t45) rfl rfl (by kernel_rfl) (by rfl) ?hv45 (fun _ _ _ h => h) hS1 rfl ?ht45 ?rest45; (case hv45 => (intro W' hW'; have q0 := hW'.cell g0 (by simp); have q1 := hW'.cell g1 (by simp); have q2 := hW'.cell b0 (by simp); have q3 := hW'.cell b1 (by simp); have q4 := hW'.cell p0 (by simp); go_simp; try with_reducible rfl)); case ht45 => (simp only [List.setIfInBounds_toArray, List.set_cons_zero, List.set_cons_succ]; with_reducible rfl)) | (refine held_skip' 15 78 (listed' := #[true, true, true, true, true, true, true, true, true, true, true, true, true, true, true, true, false, false, false, false, false, false, false, false, false, false, false, false, false, false, false, false]) (t' := ?t45) rfl rfl (by kernel_rfl) (by rfl) (fun _ _ _ h => h) hS1 rfl ?ht45 ?rest45; case ht45 => (simp only [List.setIfInBounds_toArray, List.set_cons_zero, List.set_cons_succ]; with_reducible rfl))
                  first | (refine held_take' 16 79 (listed' := #[true, true, true, true, true, true, true, true, true, true, true, true, true, true, true, true, true, false, false, false, false, false, false, false, false, false, false, false, false, false, false, false]) (v := ?v46) (t' := ?t46) rfl rfl (by kernel_rfl) (by rfl) ?hv46 (fun _ _ _ h => h) hS1 rfl ?ht46 ?rest46; (case hv46 => (intro W' hW'; have q0 := hW'.cell g0 (by simp); have q1 := hW'.cell g1 (by simp); have q2 := hW'.cell b0 (by simp); have q3 := hW'.cell b1 (by simp); have q4 := hW'.cell p0 (by simp); go_simp; try with_reducible rfl)); case ht46 => (simp only [List.setIfInBounds_toArray, List.set_cons_zero, List.set_cons_succ]; with_reducible rfl)) | (refine held_skip' 16 79 (listed' := #[true, true, true, true, true, true, true, true, true, true, true, true, true, true, true, true, true, false, false, false, false, false, false, false, false, false, false, false, false, false, false, false]) (t' := ?t46) rfl rfl (by kernel_rfl) (by rfl) (fun _ _ _ h => h) hS1 rfl ?ht46 ?rest46; case ht46 => (simp only [List.setIfInBounds_toArray, List.set_cons_zero, List.set_cons_succ]; with_reducible rfl))
                  first | (refine held_take' 17 80 (listed' := #[true, true, true, true, true, true, true, true, true, true, true, true, true, true, true, true, true, true, false, false, false, false, false, false, false, false, false, false, false, false, false, false]) (v := ?v47) (t' := ?t47) rfl rfl (by kernel_rfl) (by rfl) ?hv47 (fun _ _ _ h => h) hS1 rfl ?ht47 ?rest47; (case hv47 => (intro W' hW'; have q0 := hW'.cell g0 (by simp); have q1 := hW'.cell g1 (by simp); have q2 := hW'.cell b0 (by simp); have q3 := hW'.cell b1 (by simp); have q4 := hW'.cell p0 (by simp); go_simp; try with_reducible rfl)); case ht47 => (simp only [List.setIfInBounds_toArray, List.set_cons_zero, List.set_cons_succ]; with_reducible rfl)) | (refine held_skip' 17 80 (listed' := #[true, true, true, true, true, true, true, true, true, true, true, true, true, true, true, true, true, true, false, false, false, false, false, false, false, false, false, false, false, false, false, false]) (t' := ?t47) rfl rfl (by kernel_rfl) (by rfl) (fun _ _ _ h => h) hS1 rfl ?ht47 ?rest47; case ht47 => (simp only [List.setIfInBounds_toArray, List.set_cons_zero, List.set_cons_succ]; with_reducible rfl))
                  first | (refine held_take' 18 81 (listed' := #[true, true, true, true, true, true, true, true, true, true, true, true, true, true, true, true, true, true, true, false, false, false, false, false, false, false, false, false, false, false, false, false]) (v := ?v48) (t' := ?t48) rfl rfl (by kernel_rfl) (by rfl) ?hv48 (fun _ _ _ h => h) hS1 rfl ?ht48 ?rest48; (case hv48 => (intro W' hW'; have q0 := hW'.cell g0 (by simp); have q1 := hW'.cell g1 (by simp); have q2 := hW'.cell b0 (by simp); have q3 := hW'.cell b1 (by simp); have q4 := hW'.cell p0 (by simp); go_simp; try with_reducible rfl)); case ht48 => (simp only [List.setIfInBounds_toArray, List.set_cons_zero, List.set_cons_succ]; with_reducible rfl)) | (refine held_skip' 18 81 (listed' := #[true, true, true, true, true, true, true, true, true, true, true, true, true, true, true, true, true, true, true, false, false, false, false, false, false, false, false, false, false, false, false, false]) (t' := ?t48) rfl rfl (by kernel_rfl) (by rfl) (fun _ _ _ h => h) hS1 rfl ?ht48 ?rest48; case ht48 => (simp only [List.setIfInBounds_toArray, List.set_cons_zero, List.set_cons_succ]; with_reducible rfl))
                  first | (refine held_take' 19 82 (listed' := #[true, true, true, true, true, true, true, true, true, true, true, true, true, true, true, true, true, true, true, true, false, false, false, false, false, false, false, false, false, false, false, false]) (v := ?v49) (t' := ?t49) rfl rfl (by kernel_rfl) (by rfl) ?hv49 (fun _ _ _ h => h) hS1 rfl ?ht49 ?rest49; (case hv49 => (intro W' hW'; have q0 := hW'.cell g0 (by simp); have q1 := hW'.cell g1 (by simp); have q2 := hW'.cell b0 (by simp); have q3 := hW'.cell b1 (by simp); have q4 := hW'.cell p0 (by simp); go_simp; try with_reducible rfl)); case ht49 => (simp only [List.setIfInBounds_toArray, List.set_cons_zero, List.set_cons_succ]; with_reducible rfl)) | (refine held_skip' 19 82 (listed' := #[true, true, true, true, true, true, true, true, true, true, true, true, true, true, true, true, true, true, true, true, false, false, false, false, false, false, false, false, false, false, false, false]) (t' := ?t49) rfl rfl (by kernel_rfl) (by rfl) (fun _ _ _ h => h) hS1 rfl ?ht49 ?rest49; case ht49 => (simp only [List.setIfInBounds_toArray, List.set_cons_zero, List.set_cons_succ]; with_reducible rfl))
                  first | (refine held_take' 20 83 (listed' := #[true, true, true, true, true, true, true, true, true, true, true, true, true, true, true, true, true, true, true, true, true, false, false, false, false, false, false, false, false, false, false, false]) (v := ?v50) (t' := ?t50) rfl rfl (by kernel_rfl) (by rfl) ?hv50 (fun _ _ _ h => h) hS1 rfl ?ht50 ?rest50; (case hv50 => (intro W' hW'; have q0 := hW'.cell g0 (by simp); have q1 := hW'.cell g1 (by simp); have q2 := hW'.cell b0 (by simp); have q3 := hW'.cell b1 (by simp); have q4 := hW'.cell p0 (by simp); go_simp; try with_reducible rfl)); case ht50 => (simp only [List.setIfInBounds_toArray, List.set_cons_zero, List.set_cons_succ]; with_reducible rfl)) | (refine held_skip' 20 83 (listed' := #[true, true, true, true, true, true, true, true, true, true, true, true, true, true, true, true, true, true, true, true, true, false, false, false, false, false, false, false, false, false, false, false]) (t' := ?t50) rfl rfl (by kernel_rfl) (by rfl) (fun _ _ _ h => h) hS1 rfl ?ht50 ?rest50; case ht50 => (simp only [List.setIfInBounds_toArray, List.set_cons_zero, List.set_cons_succ]; with_reducible rfl))
                  first | (refine held_take' 21 84 (listed' := #[true, true, true, true, true, true, true, true, true, true, true, true, true, true, true, true, true, true, true, true, true, true, false, false, false, false, false, false, false, false, false, false]) (v := ?v51) (t' := ?t51) rfl rfl (by kernel_rfl) (by rfl) ?hv51 (fun _ _ _ h => h) hS1 rfl ?ht51 ?rest51; (case hv51 => (intro W' hW'; have q0 := hW'.cell g0 (by simp); have q1 := hW'.cell g1 (by simp); have q2 := hW'.cell b0 (by simp); have q3 := hW'.cell b1 (by simp); have q4 := hW'.cell p0 (by simp); go_simp; try with_reducible rfl)); case ht51 => (simp only [List.setIfInBounds_toArray, List.set_cons_zero, List.set_cons_succ]; with_reducible rfl)) | (refine held_skip' 21 84 (listed' := #[true, true, true, true, true, true, true, true, true, true, true, true, true, true, true, true, true, true, true, true, true, true, false, false, false, false, false, false, false, false, false, false]) (t' := ?t51) rfl rfl (by kernel_rfl) (by rfl) (fun _ _ _ h => h) hS1 rfl ?ht51 ?rest51; case ht51 => (simp only [List.setIfInBounds_toArray, List.set_cons_zero, List.set_cons_succ]; with_reducible rfl))
                  first | (refine held_take' 22 85 (listed' := #[true, true, true, true, true, true, true, true, true, true, true, true, true, true, true, true, true, true, true, true, true, true, true, false, false, false, false, false, false, false, false, false]) (v := ?v52) (t' := ?t52) rfl rfl (by kernel_rfl) (by rfl) ?hv52 (fun _ _ _ h => h) hS1 rfl ?ht52 ?rest52; (case hv52 => (intro W' hW'; have q0 := hW'.cell g0 (by simp); have q1 := hW'.cell g1 (by simp); have q2 := hW'.cell b0 (by simp); have q3 := hW'.cell b1 (by simp); have q4 := hW'.cell p0 (by simp); go_simp; try with_reducible rfl)); case ht52 => (simp only [List.setIfInBounds_toArray, List.set_cons_zero, List.set_cons_succ]; with_reducible rfl)) | (refine held_skip' 22 85 (listed' := #[true, true, true, true, true, true, true, true, true, true, true, true, true, true, true, true, true, true, true, true, true, true, true, false, false, false, false, false, false, false, false, false]) (t' := ?t52) rfl rfl (by kernel_rfl) (by rfl) (fun _ _ _ h => h) hS1 rfl ?ht52 ?rest52; case ht52 => (simp only [List.setIfInBounds_toArray, List.set_cons_zero, List.set_cons_succ]; with_reducible rfl))
                  first | (refine held_take' 23 86 (listed' := #[true, true, true, true, true, true, true, true, true, true, true, true, true, true, true, true, true, true, true, true, true, true, true, true, false, false, false, false, false, false, false, false]) (v := ?v53) (t' := ?t53) rfl rfl (by kernel_rfl) (by rfl) ?hv53 (fun _ _ _ h => h) hS1 rfl ?ht53 ?rest53; (case hv53 => (intro W' hW'; have q0 := hW'.cell g0 (by simp); have q1 := hW'.cell g1 (by simp); have q2 := hW'.cell b0 (by simp); have q3 := hW'.cell b1 (by simp); have q4 := hW'.cell p0 (by simp); go_simp; try with_reducible rfl)); case ht53 => (simp only [List.setIfInBounds_toArray, List.set_cons_zero, List.set_cons_succ]; with_reducible rfl)) | (refine held_skip' 23 86 (listed' := #[true, true, true, true, true, true, true, true, true, true, true, true, true, true, true, true, true, true, true, true, true, true, true, true, false, false, false, false, false, false, false, false]) (t' := ?t53) rfl rfl (by kernel_rfl) (by rfl) (fun _ _ _ h => h) hS1 rfl ?ht53 ?rest53; case ht53 => (simp only [List.setIfInBounds_toArray, List.set_cons_zero, List.set_cons_succ]; with_reducible rfl))
                  first | (refine held_take' 24 87 (listed' := #[true, true, true, true, true, true, true, true, true, true, true, true, true, true, true, true, true, true, true, true, true, true, true, true, true, false, false, false, false, false, false, false]) (v := ?v54) (t' := ?t54) rfl rfl (by kernel_rfl) (by rfl) ?hv54 (fun _ _ _ h => h) hS1 rfl ?ht54 ?rest54; (case hv54 => (intro W' hW'; have q0 := hW'.cell g0 (by simp); have q1 := hW'.cell g1 (by simp); have q2 := hW'.cell b0 (by simp); have q3 := hW'.cell b1 (by simp); have q4 := hW'.cell p0 (by simp); go_simp; try with_reducible rfl)); case ht54 => (simp only [List.setIfInBounds_toArray, List.set_cons_zero, List.set_cons_succ]; with_reducible rfl)) | (refine held_skip' 24 87 (listed' := #[true, true, true, true, true, true, true, true, true, true, true, true, true, true, true, true, true, true, true, true, true, true, true, true, true, false, false, false, false, false, false, false]) (t' := ?t54) rfl rfl (by kernel_rfl) (by rfl) (fun _ _ _ h => h) hS1 rfl ?ht54 ?rest54; case ht54 => (simp only [List.setIfInBounds_toArray, List.set_cons_zero, List.set_cons_succ]; with_reducible rfl))
                  first | (refine held_take' 25 88 (listed' := #[true, true, true, true, true, true, true, true, true, true, true, true, true, true, true, true, true, true, true, true, true, true, true, true, true, true, false, false, false, false, false, false]) (v := ?v55) (t' := ?t55) rfl rfl (by kernel_rfl) (by rfl) ?hv55 (fun _ _ _ h => h) hS1 rfl ?ht55 ?rest55; (case hv55 => (intro W' hW'; have q0 := hW'.cell g0 (by simp); have q1 := hW'.cell g1 (by simp); have q2 := hW'.cell b0 (by simp); have q3 := hW'.cell b1 (by simp); have q4 := hW'.cell p0 (by simp); go_simp; try with_reducible rfl)); case ht55 => (simp only [List.setIfInBounds_toArray, List.set_cons_zero, List.set_cons_succ]; with_reducible rfl)) | (refine held_skip' 25 88 (listed' := #[true, true, true, true, true, true, true, true, true, true, true, true, true, true, true, true, true, true, true, true, true, true, true, true, true, true, false, false, false, false, false, false]) (t' := ?t55) rfl rfl (by kernel_rfl) (by rfl) (fun _ _ _ h => h) hS1 rfl ?ht55 ?rest55; case ht55 => (simp only [List.setIfInBounds_toArray, List.set_cons_zero, List.set_cons_succ]; with_reducible rfl))
                  first | (refine held_take' 28 91 (listed' := #[true, true, true, true, true, true, true, true, true, true, true, true, true, true, true, true, true, true, true, true, true, true, true, true, true, true, false, false, true, false, false, false]) (v := ?v56) (t' := ?t56) rfl rfl (by kernel_rfl) (by rfl) ?hv56 (fun _ _ _ h => h) hS1 rfl ?ht56 ?rest56; (case hv56 => (intro W' hW'; have q0 := hW'.cell g0 (by simp); have q1 := hW'.cell g1 (by simp); have q2 := hW'.cell b0 (by simp); have q3 := hW'.cell b1 (by simp); have q4 := hW'.cell p0 (by simp); go_simp; try with_reducible rfl)); case ht56 => (simp only [List.setIfInBounds_toArray, List.set_cons_zero, List.set_cons_succ]; with_reducible rfl)) | (refine held_skip' 28 91 (listed' := #[true, true, true, true, true, true, true, true, true, true, true, true, true, true, true, true, true, true, true, true, true, true, true, true, true, true, false, false, true, false, false, false]) (t' := ?t56) rfl rfl (by kernel_rfl) (by rfl) (fun _ _ _ h => h) hS1 rfl ?ht56 ?rest56; case ht56 => (simp only [List.setIfInBounds_toArray, List.set_cons_zero, List.set_cons_succ]; with_reducible rfl))
                  first | (refine held_take' 29 92 (listed' := #[true, true, true, true, true, true, true, true, true, true, true, true, true, true, true, true, true, true, true, true, true, true, true, true, true, true, false, false, true, true, false, false]) (v := ?v57) (t' := ?t57) rfl rfl (by kernel_rfl) (by rfl) ?hv57 (fun _ _ _ h => h) hS1 rfl ?ht57 ?rest57; (case hv57 => (intro W' hW'; have q0 := hW'.cell g0 (by simp); have q1 := hW'.cell g1 (by simp); have q2 := hW'.cell b0 (by simp); have q3 := hW'.cell b1 (by simp); have q4 := hW'.cell p0 (by simp); go_simp; try with_reducible rfl)); case ht57 => (simp only [List.setIfInBounds_toArray, List.set_cons_zero, List.set_cons_succ]; with_reducible rfl)) | (refine held_skip' 29 92 (listed' := #[true, true, true, true, true, true, true, true, true, true, true, true, true, true, true, true, true, true, true, true, true, true, true, true, true, true, false, false, true, true, false, false]) (t' := ?t57) rfl rfl (by kernel_rfl) (by rfl) (fun _ _ _ h => h) hS1 rfl ?ht57 ?rest57; case ht57 => (simp only [List.setIfInBounds_toArray, List.set_cons_zero, List.set_cons_succ]; with_reducible rfl))
                  refine held_one 26 rfl (by kernel_rfl) (by rfl) (fun K hK => ?_)
                  go_simp
                  refine (cG _ hS1).mono ?_
                  rintro e w2 ⟨ua, uc, rfl, hv2⟩
                  have hS2 := hS1.trans hv2
                  refine hK.out _ _ hS2 ?_
                  clear hK K
                  show wpAnyH _ _ _ _ _ _ #[true, true, true, true, true, true, true, true, true, true, true, true, true, true, true, true, true, true, true, true, true, true, true, true, true, true, true, false, true, true, false, false] _ _
                  first | (refine held_take' 27 90 (listed' := #[true, true, true, true, true, true, true, true, true, true, true, true, true, true, true, true, true, true, true, true, true, true, true, true, true, true, true, true, true, true, false, false]) (v := ?v58) (t' := ?t58) rfl rfl (by kernel_rfl) (by rfl) ?hv58 (fun _ _ _ h => h) hS2 rfl ?ht58 ?rest58; (case hv58 => (intro W' hW'; have q0 := hW'.cell g0 (by simp); have q1 := hW'.cell g1 (by simp); have q2 := hW'.cell b0 (by simp); have q3 := hW'.cell b1 (by simp); have q4 := hW'.cell p0 (by simp); go_simp; try with_reducible rfl)); case ht58 => (simp only [List.setIfInBounds_toArray, List.set_cons_zero, List.set_cons_succ]; with_reducible rfl)) | (refine held_skip' 27 90 (listed' := #[true, true, true, true, true, true, true, true, true, true, true, true, true, true, true, true, true, true, true, true, true, true, true, true, true, true, true, true, true, true, false, false]) (t' := ?t58) rfl rfl (by kernel_rfl) (by rfl) (fun _ _ _ h => h) hS2 rfl ?ht58 ?rest58; case ht58 => (simp only [List.setIfInBounds_toArray, List.set_cons_zero, List.set_cons_succ]; with_reducible rfl))
                  first | (refine held_take' 30 93 (listed' := #[true, true, true, true, true, true, true, true, true, true, true, true, true, true, true, true, true, true, true, true, true, true, true, true, true, true, true, true, true, true, true, false]) (v := ?v59) (t' := ?t59) rfl rfl (by kernel_rfl) (by rfl) ?hv59 (fun _ _ _ h => h) hS2 rfl ?ht59 ?rest59; (case hv59 => (intro W' hW'; have q0 := hW'.cell g0 (by simp); have q1 := hW'.cell g1 (by simp); have q2 := hW'.cell b0 (by simp); have q3 := hW'.cell b1 (by simp); have q4 := hW'.cell p0 (by simp); go_simp; try with_reducible rfl)); case ht59 => (simp only [List.setIfInBounds_toArray, List.set_cons_zero, List.set_cons_succ]; with_reducible rfl)) | (refine held_skip' 30 93 (listed' := #[true, true, true, true, true, true, true, true, true, true, true, true, true, true, true, true, true, true, true, true, true, true, true, true, true, true, true, true, true, true, true, false]) (t' := ?t59) rfl rfl (by kernel_rfl) (by rfl) (fun _ _ _ h => h) hS2 rfl ?ht59 ?rest59; case ht59 => (simp only [List.setIfInBounds_toArray, List.set_cons_zero, List.set_cons_succ]; with_reducible rfl))
                  first | (refine held_take' 31 94 (listed' := #[true, true, true, true, true, true, true, true, true, true, true, true, true, true, true, true, true, true, true, true, true, true, true, true, true, true, true, true, true, true, true, true]) (v := ?v60) (t' := ?t60) rfl rfl (by kernel_rfl) (by rfl) ?hv60 (fun _ _ _ h => h) hS2 rfl ?ht60 ?rest60; (case hv60 => (intro W' hW'; have q0 := hW'.cell g0 (by simp); have q1 := hW'.cell g1 (by simp); have q2 := hW'.cell b0 (by simp); have q3 := hW'.cell b1 (by simp); have q4 := hW'.cell p0 (by simp); go_simp; try with_reducible rfl)); case ht60 => (simp only [List.setIfInBounds_toArray, List.set_cons_zero, List.set_cons_succ]; with_reducible rfl)) | (refine held_skip' 31 94 (listed' := #[true, true, true, true, true, true, true, true, true, true, true, true, true, true, true, true, true, true, true, true, true, true, true, true, true, true, true, true, true, true, true, true]) (t' := ?t60) rfl rfl (by kernel_rfl) (by rfl) (fun _ _ _ h => h) hS2 rfl ?ht60 ?rest60; case ht60 => (simp only [List.setIfInBounds_toArray, List.set_cons_zero, List.set_cons_succ]; with_reducible rfl))
                  refine wpAnyH_done (by kernel_rfl) ?_ _
                  by_cases hlim : (cnt : Int) ≤ x.limit
                  · have hck' := hid (ckG_succ (by rw [HMs.out]; exact hlt2) hck.out (by rw [HX2.out, GOK.out _ _ _ ho HDn.out (decide_eq_true (by rw [HCnt.out]; exact hlim))]; rfl) (.inr (by rw [HX2.out]; exact hord)))
                    have hlm : ¬ x.limit < (cnt : Int) := by omega
                    clear ho hord
                    go_wp2_with (fail)
                    go_roundw
                    case rel => exact ⟨j + 1, by omega, (by go_num), hck'.out, hcc.trans hS2, hS2.heap HBX.out (by simp)⟩
                    case measure => (simp [intOf]; omega)
                  · obtain rfl : R = false := HR.out.symm.trans (bad_grp (k := j) (by rw [HMs.out]; exact hlt2) (by rw [HX2.out, GOK.out _ _ _ ho HDn.out (decide_eq_false (by rw [HCnt.out]; exact hlim))]; rfl))
                    have hlm : x.limit < (cnt : Int) := by omega
                    clear ho hlim hord
                    go_wp2_with (fail)
                    go_ret
                    exact ⟨rfl, hcc.trans hS2⟩
                · obtain rfl : R = false := HR.out.symm.trans (bad_grp (k := j) (by rw [HMs.out]; exact hlt2) (by rw [HX2.out, GOK.out _ _ _ ho HDn.out rfl]; rfl))
                  have lp := later_cell p0
                  clear ho hord p0
                  have l0 := later_cell g0
                  have l1 := later_cell g1
                  have lb := later_cell b0
                  have lb1 := later_cell b1
                  clear g0 g1 b0 b1
                  refine wp_region_later (by kernel_rfl) (by kernel_rfl) (Chg.refl [] W) ?_
                  repeat (first | go_big_quiet_step ((go_at_call 43; exact later_calls (cV _))) | quiet_step ((go_at_call 43; exact later_calls (cV _))))
                  refine wpQuiet_nil ?_
                  rintro _ ⟨⟨W2, hW2⟩, rfl⟩
                  go_wp2_with (fail)
                  go_ret
                  exact ⟨rfl, hcc.trans hW2⟩
              · obtain rfl : R = false := HR.out.symm.trans (bad_gord (k := j) (by rw [HMs.out]; exact hlt2) (by omega) (by rw [HX2.out]; exact hord))
                have f1 := le_facts' (P := Pv) (X := X) (by rw [HPn.out, HXn.out]; exact hord)
                have lp := later_cell p0
                clear ho hord p0
                have l0 := later_cell g0
                have l1 := later_cell g1
                have lb := later_cell b0
                have lb1 := later_cell b1
                clear g0 g1 b0 b1
                refine wp_region_later (by kernel_rfl) (by kernel_rfl) (Chg.refl [] W) ?_
                repeat (first | go_big_quiet_step ((go_at_call 43; exact later_calls (cV _))) | quiet_step ((go_at_call 43; exact later_calls (cV _))))
                refine wpQuiet_nil ?_
                rintro _ ⟨⟨W2, hW2⟩, rfl⟩
                go_wp2_with (fail)
                go_ret
                exact ⟨rfl, hcc.trans hW2⟩
        · obtain rfl : j = M := by omega
          obtain rfl : R = true := HR.out.symm.trans (ck_all (by rw [HLs.out]; omega) (by rw [HMs.out]; omega) (by rw [HLs.out]; exact HckE.out) (by rw [HMs.out]; exact hck.out))
          go_wp2_with (fail)
          go_ret
          exact ⟨rfl, hc⟩

end Go.Proofs.YtldkmclfhjcicaaDoor

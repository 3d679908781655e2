import Derived.WalkSpells
import Derived.Outline
import Derived.Test.YtldkmclfhjcicaaGreatDoorProg
import Derived.Test.YtldkmclfhjcicaaGreatDoorCCheck
import Derived.Test.YtldkmclfhjcicaaGreatDoorCSk
import Derived.Test.YtldkmclfhjcicaaGreatDoorCMv
import Derived.Test.YtldkmclfhjcicaaGreatDoorCatP

namespace Go.Proofs.YtldkmclfhjcicaaGreatDoor
open Go.RowKit
set_option linter.unusedVariables false
set_option linter.unusedSimpArgs false

def OwC (w : World) (B : Nat) (ue ug : Value) (c : Cat) : Prop := w.ownsRow B 45 4 ue c.es.length (cE c.es) ∧ w.ownsRow B 54 2 ug c.gs.length (cG c.gs)
theorem OwC.nil (w : World) (B : Nat) : OwC w B (.slice none 0 0) (.slice none 0 0) ⟨[], []⟩ := ⟨World.ownsRow_nil _ _ _ _, World.ownsRow_nil _ _ _ _⟩

theorem cE_erase (es : List Ent) (i : Nat) : (cE es).take (i * 4) ++ (cE es).drop ((i + 1) * 4) = cE (es.eraseIdx i) := by
  unfold cE
  rw [flat_take entL 4 entL_len, flat_drop entL 4 entL_len, ← List.flatMap_append, List.eraseIdx_eq_take_drop_succ]
theorem own_ne {w : World} {B e k n b : Nat} {v : Value} {xs : List Value} {cs : Array Value} {T : TypeId} {fr : Nat × Nat} (h : w.ownsRow B e k v n xs) (hb : w.heap[b]? = some (.cells cs T fr)) (hT : T ≠ e) : ∀ j ∈ own v, j ∉ [b] := by
  intro j hj
  rw [List.mem_singleton]
  rintro rfl
  rcases h.2 with ⟨rfl, _⟩ | ⟨g, cap, cur, rfl, _, hg, _⟩
  · simp [own, Value.ownBlock] at hj
  · simp [own, Value.ownBlock] at hj
    subst hj
    rw [hb] at hg
    cases hg
    exact hT rfl

theorem cat_end {W : World} {n8 r k B : Nat} {a b p q x u ug : Value} {c : Cat} (h8 : W.heap[n8]? = some (.cells #[p, q] 25 (0, 0))) (hr : W.heap[r]? = some (.cells #[a, b] 25 (0, 0))) (hne : r ≠ n8)
    (ho : W.ownsRow B 45 4 u c.es.length (cE c.es)) (hg : W.ownsRow B 54 2 ug c.gs.length (cG c.gs)) :
    Hid (OwC (((W.setCell ⟨n8, k, none⟩ x).setCell ⟨r, 0, none⟩ u).setCell ⟨r, 1, none⟩ ug) B u ug c ∧ (((W.setCell ⟨n8, k, none⟩ x).setCell ⟨r, 0, none⟩ u).setCell ⟨r, 1, none⟩ ug).cell? ⟨r, 0, none⟩ = some u ∧
      (((W.setCell ⟨n8, k, none⟩ x).setCell ⟨r, 0, none⟩ u).setCell ⟨r, 1, none⟩ ug).cell? ⟨r, 1, none⟩ = some ug ∧ Chg [n8, r] W (((W.setCell ⟨n8, k, none⟩ x).setCell ⟨r, 0, none⟩ u).setCell ⟨r, 1, none⟩ ug)) := by
  have h5 : (W.setCell ⟨n8, k, none⟩ x).heap[r]? = some (.cells #[a, b] 25 (0, 0)) := (heap_setCell_other _ _ _ _ hne).trans hr
  have c5 : Chg [n8] W (W.setCell ⟨n8, k, none⟩ x) := Chg.setCell _ (.inl (by simp)) _
  obtain ⟨_, _, _, _, HR2, HC2⟩ := store2 u ug h5
  obtain ⟨q0, q1⟩ := two_cells HR2.out
  have o5 := ownK_keep ho c5 (own_ne ho h8 (by decide))
  have g5 := ownK_keep hg c5 (own_ne hg h8 (by decide))
  exact ⟨⟨ownK_keep o5 HC2.out (own_ne o5 h5 (by decide)), ownK_keep g5 HC2.out (own_ne g5 h5 (by decide))⟩, q0, q1, (c5.weaken (by intro j _ h; simp_all)).trans (HC2.out.weaken (by intro j _ h; simp_all))⟩

end Go.Proofs.YtldkmclfhjcicaaGreatDoor

namespace Go.Proofs.YtldkmclfhjcicaaGreatDoor
open Go.RowKit
set_option linter.unusedVariables false
set_option linter.unusedSimpArgs false

theorem cG_insert (gs : List Grp) (g : Grp) (i : Nat) : (cG gs).take (i * 2) ++ grpL g ++ (cG gs).drop (i * 2) = cG (gs.take i ++ g :: gs.drop i) := by
  unfold cG
  rw [flat_take grpL 2 grpL_len, flat_drop grpL 2 grpL_len, List.flatMap_append, List.flatMap_cons, List.append_assoc]

set_option maxHeartbeats 16000000 in
set_option maxRecDepth 100000 in
theorem Define_any (w : World) (ve vg : Value) (c : Cat) (hv : RdC w ve vg c) (S : ByteArray) (l : Int) : Calls Tryz.prog 22 #[.agg #[ve, vg], .string S, .int .i64 l] w fun e w' =>
    ∃ ue ug, e = .returned (.tuple #[.agg #[ue, ug], .int .i64 (defineC c S.data.toList l).2]) ∧ OwC w' w.heap.size ue ug (defineC c S.data.toList l).1 ∧ Chg [] w w' := by
  have hve := hv.1
  have hvg := hv.2
  obtain ⟨W0, hW0⟩ : ∃ W0, ((w.alloc (.cells #[ve, vg] 25)).alloc (.cells #[.slice none 0 0, .slice none 0 0] 25)).alloc (.cells #[.string S, .int .i64 l] 54) = W0 := ⟨_, rfl⟩
  have hbx : W0.heap[w.heap.size]? = some (.cells #[ve, vg] 25 (0, 0)) := by rw [← hW0]; exact al_old (al_old (al_new rfl))
  have hres : W0.heap[w.heap.size + 1]? = some (.cells #[.slice none 0 0, .slice none 0 0] 25 (0, 0)) := by rw [← hW0]; exact al_old (al_new (by simp))
  have hgb : W0.heap[w.heap.size + 2]? = some (.cells #[.string S, .int .i64 l] 54 (0, 0)) := by rw [← hW0]; exact al_new (by simp)
  have hw0 : Chg [] w W0 := by rw [← hW0]; exact ((Chg.alloc _ _ _).trans (Chg.alloc _ _ _)).trans (Chg.alloc _ _ _)
  have hk := Check_any W0 ve vg c ⟨hve.keep1 hw0, hvg.keep1 hw0⟩
  have hva := fun W => validG_any S l W
  obtain ⟨R, hR⟩ : ∃ R, defineC c S.data.toList l = R := ⟨_, rfl⟩
  rw [hR]
  cases hvc : validC c with
  | false =>
    have hR' : R = (⟨[], []⟩, 1) := by rw [← hR]; simp [defineC, hvc]
    subst hR'
    rw [hvc] at hk
    have HK := hid hk
    have HVA := hid hva
    have HW0 := hid hW0
    have HB := hid hbx
    have HS := hid hres
    have HG := hid hgb
    clear hv hve hvg hk hW0 hbx hres hgb hR hva hvc
    go_enter Tryz.func22, Tryz.ntmps22
    go_wp2_with (first
      | (go_at_call 16; rw [HW0.out]; refine HK.out.mono ?_; rintro e W1 ⟨rfl, hc1⟩; obtain ⟨g0, g1⟩ := two_cells (hc1.heap HG.out (by simp)); have hcc1 := hw0.trans hc1; obtain ⟨r0, r1, f0, f1, HR2, HC2⟩ := store2 (.slice none 0 0) (.slice none 0 0) (hc1.heap HS.out (by simp))))
    obtain ⟨q0, q1⟩ := two_cells HR2.out
    refine bodyPost_ret (v := .tuple #[.agg #[.slice none 0 0, .slice none 0 0], .int .i64 1]) (by simp [results, Tryz.f22, go_sem, q0, q1]) rfl ?_
    exact ⟨_, _, rfl, OwC.nil _ _, (hw0.trans hc1).then HC2.out (by simp)⟩
  | true =>
    obtain ⟨a1, a2, a3, a4, a5, a6, a7⟩ := validC_all hvc
    rw [hvc] at hk
    cases hgk : grpOk ⟨S.data.toList, l⟩ with
    | false =>
      have hR' : R = (⟨[], []⟩, 1) := by rw [← hR]; simp [defineC, hvc, hgk]
      subst hR'
      rw [hgk] at hva
      have HK := hid hk
      have HVA := hid hva
      have HW0 := hid hW0
      have HB := hid hbx
      have HS := hid hres
      have HG := hid hgb
      clear hv hve hvg hk hW0 hbx hres hgb hR hva hvc hgk a1 a2 a3 a4 a5 a6 a7
      go_enter Tryz.func22, Tryz.ntmps22
      go_wp2_with (first
        | (go_at_call 16; rw [HW0.out]; refine HK.out.mono ?_; rintro e W1 ⟨rfl, hc1⟩; obtain ⟨g0, g1⟩ := two_cells (hc1.heap HG.out (by simp)); have hcc1 := hw0.trans hc1)
        | (go_at_call 41; refine (HVA.out _).mono ?_; rintro e W2 ⟨rfl, hc2'⟩; have hc2 := hc1.trans hc2'; obtain ⟨b0, b1⟩ := two_cells (hc2.heap HB.out (by simp)); obtain ⟨r0, r1, f0, f1, HR2, HC2⟩ := store2 (.slice none 0 0) (.slice none 0 0) (hc2.heap HS.out (by simp))))
      obtain ⟨q0, q1⟩ := two_cells HR2.out
      refine bodyPost_ret (v := .tuple #[.agg #[.slice none 0 0, .slice none 0 0], .int .i64 1]) (by simp [results, Tryz.f22, go_sem, q0, q1]) rfl ?_
      exact ⟨_, _, rfl, OwC.nil _ _, (hw0.trans hc2).then HC2.out (by simp)⟩
    | true =>
      rw [hgk] at hva
      have hS35 : S.data.toList.length ≤ 35 := (grpOk_parts hgk).2.1
      have hsg := fun (W : World) (hW : Chg [] w W) => seekG_any W vg c.gs S (hvg.keep1 hW) (by omega) a6
      have hse := fun (W : World) (hW : Chg [] w W) => seekE_any W ve c.es S (hve.keep1 hW) (by omega) a4
      obtain ⟨i, hi⟩ : ∃ i, lbS (basesS c.gs) S.data.toList = i := ⟨_, rfl⟩
      obtain ⟨i', hi'⟩ : ∃ i', lbS (namesS c.es) S.data.toList = i' := ⟨_, rfl⟩
      rw [hi] at hsg
      rw [hi'] at hse
      by_cases hmg : S.data.toList ∈ basesS c.gs
      · have hR' : R = (⟨[], []⟩, 4) := by rw [← hR]; simp [defineC, hvc, hgk, hmg]
        subst hR'
        rw [decide_eq_true hmg] at hsg
        have HK := hid hk
        have HVA := hid hva
        have HW0 := hid hW0
        have HB := hid hbx
        have HS := hid hres
        have HG := hid hgb
        have HSG := hid hsg
        have HSE := hid hse
        clear hv hve hvg hk hW0 hbx hres hgb hR hva hvc hgk a1 a2 a3 a4 a5 a6 a7 hi hi' hS35 hsg hse hmg
        go_enter Tryz.func22, Tryz.ntmps22
        go_wp2_with (first
          | (go_at_call 16; rw [HW0.out]; refine HK.out.mono ?_; rintro e W1 ⟨rfl, hc1⟩; obtain ⟨g0, g1⟩ := two_cells (hc1.heap HG.out (by simp)); have hcc1 := hw0.trans hc1)
          | (go_at_call 41; refine (HVA.out _).mono ?_; rintro e W2 ⟨rfl, hc2'⟩; have hc2 := hc1.trans hc2'; obtain ⟨b0, b1⟩ := two_cells (hc2.heap HB.out (by simp)))
          | (go_at_call 54; refine (HSG.out _ (hw0.trans hc2)).mono ?_; rintro e W3 ⟨rfl, hc3'⟩; have hc3 := hc2.trans hc3'; obtain ⟨b0', b1'⟩ := two_cells (hc3.heap HB.out (by simp)))
          | (go_at_call 39; refine (HSE.out _ (hw0.trans hc3)).mono ?_; rintro e W4 ⟨rfl, hc4'⟩; have hc4 := hc3.trans hc4'; obtain ⟨b0'', b1''⟩ := two_cells (hc4.heap HB.out (by simp)); obtain ⟨r0, r1, f0, f1, HR2, HC2⟩ := store2 (.slice none 0 0) (.slice none 0 0) (hc4.heap HS.out (by simp))))
        obtain ⟨q0, q1⟩ := two_cells HR2.out
        refine bodyPost_ret (v := .tuple #[.agg #[.slice none 0 0, .slice none 0 0], .int .i64 4]) (by simp [results, Tryz.f22, go_sem, q0, q1]) rfl ?_
        exact ⟨_, _, rfl, OwC.nil _ _, (hw0.trans hc4).then HC2.out (by simp)⟩
      · rw [decide_eq_false hmg] at hsg
        by_cases hme : S.data.toList ∈ namesS c.es
        · have hR' : R = (⟨[], []⟩, 4) := by rw [← hR]; simp [defineC, hvc, hgk, hmg, hme]
          subst hR'
          rw [decide_eq_true hme] at hse
          have HK := hid hk
          have HVA := hid hva
          have HW0 := hid hW0
          have HB := hid hbx
          have HS := hid hres
          have HG := hid hgb
          have HSG := hid hsg
          have HSE := hid hse
          clear hv hve hvg hk hW0 hbx hres hgb hR hva hvc hgk a1 a2 a3 a4 a5 a6 a7 hi hi' hS35 hsg hse hmg hme
          go_enter Tryz.func22, Tryz.ntmps22
          go_wp2_with (first
            | (go_at_call 16; rw [HW0.out]; refine HK.out.mono ?_; rintro e W1 ⟨rfl, hc1⟩; obtain ⟨g0, g1⟩ := two_cells (hc1.heap HG.out (by simp)); have hcc1 := hw0.trans hc1)
            | (go_at_call 41; refine (HVA.out _).mono ?_; rintro e W2 ⟨rfl, hc2'⟩; have hc2 := hc1.trans hc2'; obtain ⟨b0, b1⟩ := two_cells (hc2.heap HB.out (by simp)))
            | (go_at_call 54; refine (HSG.out _ (hw0.trans hc2)).mono ?_; rintro e W3 ⟨rfl, hc3'⟩; have hc3 := hc2.trans hc3'; obtain ⟨b0', b1'⟩ := two_cells (hc3.heap HB.out (by simp)))
            | (go_at_call 39; refine (HSE.out _ (hw0.trans hc3)).mono ?_; rintro e W4 ⟨rfl, hc4'⟩; have hc4 := hc3.trans hc4'; obtain ⟨b0'', b1''⟩ := two_cells (hc4.heap HB.out (by simp)); obtain ⟨r0, r1, f0, f1, HR2, HC2⟩ := store2 (.slice none 0 0) (.slice none 0 0) (hc4.heap HS.out (by simp))))
          obtain ⟨q0, q1⟩ := two_cells HR2.out
          refine bodyPost_ret (v := .tuple #[.agg #[.slice none 0 0, .slice none 0 0], .int .i64 4]) (by simp [results, Tryz.f22, go_sem, q0, q1]) rfl ?_
          exact ⟨_, _, rfl, OwC.nil _ _, (hw0.trans hc4).then HC2.out (by simp)⟩
        · rw [decide_eq_false hme] at hse
          have hgn := fun (W : World) (hW : Chg [] w W) => generations_any W ve vg c.es S (by rw [← bs_len]; omega) (by omega) (hve.keep1 hW) ⟨_, _, _, (hvg.shape).choose_spec.choose_spec⟩
          obtain ⟨cnt, hcnt⟩ : ∃ n, (gensS c.es S.data.toList).length = n := ⟨_, rfl⟩
          rw [idxG_length, hcnt] at hgn
          by_cases hlim : l < (cnt : Int)
          · have hR' : R = (⟨[], []⟩, 6) := by rw [← hR]; simp [defineC, hvc, hgk, hmg, hme, hcnt, hlim]
            subst hR'
            have HK := hid hk
            have HVA := hid hva
            have HW0 := hid hW0
            have HB := hid hbx
            have HS := hid hres
            have HG := hid hgb
            have HSG := hid hsg
            have HSE := hid hse
            have HGN := hid hgn
            clear hv hve hvg hk hW0 hbx hres hgb hR hva hvc hgk a1 a2 a3 a4 a5 a6 a7 hi hi' hS35 hsg hse hmg hme hgn hcnt
            go_enter Tryz.func22, Tryz.ntmps22
            go_wp2_with (first
              | (go_at_call 16; rw [HW0.out]; refine HK.out.mono ?_; rintro e W1 ⟨rfl, hc1⟩; obtain ⟨g0, g1⟩ := two_cells (hc1.heap HG.out (by simp)); have hcc1 := hw0.trans hc1)
              | (go_at_call 41; refine (HVA.out _).mono ?_; rintro e W2 ⟨rfl, hc2'⟩; have hc2 := hc1.trans hc2'; obtain ⟨b0, b1⟩ := two_cells (hc2.heap HB.out (by simp)))
              | (go_at_call 54; refine (HSG.out _ (hw0.trans hc2)).mono ?_; rintro e W3 ⟨rfl, hc3'⟩; have hc3 := hc2.trans hc3'; obtain ⟨b0', b1'⟩ := two_cells (hc3.heap HB.out (by simp)))
              | (go_at_call 39; refine (HSE.out _ (hw0.trans hc3)).mono ?_; rintro e W4 ⟨rfl, hc4'⟩; have hc4 := hc3.trans hc4'; obtain ⟨b0'', b1''⟩ := two_cells (hc4.heap HB.out (by simp)))
              | (go_at_call 42; refine (HGN.out _ (hw0.trans hc4)).mono ?_; rintro e W5 ⟨gu, rfl, hgo, hc5'⟩; obtain ⟨gua, guc, rfl⟩ := (RdK.of_own hgo).shape; have hc5 := hc4.trans hc5'; obtain ⟨b0a, b1a⟩ := two_cells (hc5.heap HB.out (by simp)); obtain ⟨r0, r1, f0, f1, HR2, HC2⟩ := store2 (.slice none 0 0) (.slice none 0 0) (hc5.heap HS.out (by simp))))
            obtain ⟨q0, q1⟩ := two_cells HR2.out
            refine bodyPost_ret (v := .tuple #[.agg #[.slice none 0 0, .slice none 0 0], .int .i64 6]) (by simp [results, Tryz.f22, go_sem, q0, q1]) rfl ?_
            exact ⟨_, _, rfl, OwC.nil _ _, (hw0.trans hc5).then HC2.out (by simp)⟩
          · obtain ⟨va, vc, hvs⟩ := hvg.shape
            subst hvs
            by_cases hfull : 32 ≤ c.gs.length
            · have hR' : R = (⟨[], []⟩, 7) := by rw [← hR]; simp [defineC, hvc, hgk, hmg, hme, hcnt, hlim, hfull]
              subst hR'
              have hfi : (32 : Int) ≤ (c.gs.length : Int) := by omega
              have HK := hid hk
              have HVA := hid hva
              have HW0 := hid hW0
              have HB := hid hbx
              have HS := hid hres
              have HG := hid hgb
              have HSG := hid hsg
              have HSE := hid hse
              have HGN := hid hgn
              clear hv hve hvg hk hW0 hbx hres hgb hR hva hvc hgk a1 a2 a3 a4 a5 a6 a7 hi hi' hS35 hsg hse hmg hme hgn hcnt
              go_enter Tryz.func22, Tryz.ntmps22
              go_wp2_with (first
                | (go_at_call 16; rw [HW0.out]; refine HK.out.mono ?_; rintro e W1 ⟨rfl, hc1⟩; obtain ⟨g0, g1⟩ := two_cells (hc1.heap HG.out (by simp)); have hcc1 := hw0.trans hc1)
                | (go_at_call 41; refine (HVA.out _).mono ?_; rintro e W2 ⟨rfl, hc2'⟩; have hc2 := hc1.trans hc2'; obtain ⟨b0, b1⟩ := two_cells (hc2.heap HB.out (by simp)))
                | (go_at_call 54; refine (HSG.out _ (hw0.trans hc2)).mono ?_; rintro e W3 ⟨rfl, hc3'⟩; have hc3 := hc2.trans hc3'; obtain ⟨b0', b1'⟩ := two_cells (hc3.heap HB.out (by simp)))
                | (go_at_call 39; refine (HSE.out _ (hw0.trans hc3)).mono ?_; rintro e W4 ⟨rfl, hc4'⟩; have hc4 := hc3.trans hc4'; obtain ⟨b0'', b1''⟩ := two_cells (hc4.heap HB.out (by simp)))
                | (go_at_call 42; refine (HGN.out _ (hw0.trans hc4)).mono ?_; rintro e W5 ⟨gu, rfl, hgo, hc5'⟩; obtain ⟨gua, guc, rfl⟩ := (RdK.of_own hgo).shape; have hc5 := hc4.trans hc5'; obtain ⟨b0a, b1a⟩ := two_cells (hc5.heap HB.out (by simp)); obtain ⟨r0, r1, f0, f1, HR2, HC2⟩ := store2 (.slice none 0 0) (.slice none 0 0) (hc5.heap HS.out (by simp))))
              obtain ⟨q0, q1⟩ := two_cells HR2.out
              refine bodyPost_ret (v := .tuple #[.agg #[.slice none 0 0, .slice none 0 0], .int .i64 7]) (by simp [results, Tryz.f22, go_sem, q0, q1]) rfl ?_
              exact ⟨_, _, rfl, OwC.nil _ _, (hw0.trans hc5).then HC2.out (by simp)⟩
            · have hR' : R = (⟨c.es, insG ⟨S.data.toList, l⟩ c.gs⟩, 0) := by rw [← hR]; simp [defineC, hvc, hgk, hmg, hme, hcnt, hlim, hfull]
              subst hR'
              have hfi : ¬ ((32 : Int) ≤ (c.gs.length : Int)) := by omega
              have hg32 : c.gs.length < 32 := by omega
              have hin : insG ⟨S.data.toList, l⟩ c.gs = c.gs.take i ++ ⟨S.data.toList, l⟩ :: c.gs.drop i := by rw [insG_at _ c.gs a6 hmg]; unfold basesS at hi; rw [hi]
              have hil : i ≤ c.gs.length := by rw [← hi]; have := lbS_le (basesS c.gs) S.data.toList; simpa [basesS] using this
              have hcl := fun (W : World) (hW : Chg [] w W) => clone_any W ve (.slice va c.gs.length vc) c ⟨hve.keep1 hW, hvg.keep1 hW⟩ (by omega) (by omega)
              have hinl : (insG ⟨S.data.toList, l⟩ c.gs).length = c.gs.length + 1 := by rw [hin]; simp; omega
              have hii := fun (W : World) (v : Value) (gu : Nat) (tu : TypeId) (h : W.ownsRow w.heap.size 54 2 v c.gs.length (cG c.gs)) (hU : W.heap[gu]? = some (.cells (#[.string S, .int .i64 l]) tu (0, 0))) (hgu : ∀ j ∈ own v, gu ≠ j) (hBw : w.heap.size ≤ W.heap.size) =>
                insG_any W w.heap.size v c.gs.length i gu tu (cG c.gs) [.string S, .int .i64 l] h hil (by omega) (cG_one c.gs) hU rfl (by intro u hu; simp at hu; rcases hu with rfl | rfl <;> rfl) hgu hBw
              rw [show ([.string S, .int .i64 l] : List Value) = grpL ⟨S.data.toList, l⟩ from by unfold grpL; rw [bs_of]] at hii
              rw [cG_insert, ← hin, ← hinl] at hii
              have hi64 : (i : Int) ≤ 32 := by omega
              have HK := hid hk
              have HVA := hid hva
              have HW0 := hid hW0
              have HB := hid hbx
              have HS := hid hres
              have HG := hid hgb
              have HSG := hid hsg
              have HSE := hid hse
              have HGN := hid hgn
              have HCL := hid hcl
              have HII := hid hii
              have HIL := hid hinl
              clear hv hve hvg hk hW0 hbx hres hgb hR hva hvc hgk a1 a2 a3 a4 a5 a6 a7 hi hi' hS35 hsg hse hmg hme hgn hcl hii hcnt hinl hin
              go_enter Tryz.func22, Tryz.ntmps22
              go_wp2_with (first
                | (go_at_call 16; rw [HW0.out]; refine HK.out.mono ?_; rintro e W1 ⟨rfl, hc1⟩; obtain ⟨g0, g1⟩ := two_cells (hc1.heap HG.out (by simp)); have hcc1 := hw0.trans hc1)
                | (go_at_call 41; refine (HVA.out _).mono ?_; rintro e W2 ⟨rfl, hc2'⟩; have hc2 := hc1.trans hc2'; obtain ⟨b0, b1⟩ := two_cells (hc2.heap HB.out (by simp)))
                | (go_at_call 54; refine (HSG.out _ (hw0.trans hc2)).mono ?_; rintro e W3 ⟨rfl, hc3'⟩; have hc3 := hc2.trans hc3'; obtain ⟨b0', b1'⟩ := two_cells (hc3.heap HB.out (by simp)))
                | (go_at_call 39; refine (HSE.out _ (hw0.trans hc3)).mono ?_; rintro e W4 ⟨rfl, hc4'⟩; have hc4 := hc3.trans hc4'; obtain ⟨b0'', b1''⟩ := two_cells (hc4.heap HB.out (by simp)))
                | (go_at_call 42; refine (HGN.out _ (hw0.trans hc4)).mono ?_; rintro e W5 ⟨gu, rfl, hgo, hc5'⟩; obtain ⟨gua, guc, rfl⟩ := (RdK.of_own hgo).shape; have hc5 := hc4.trans hc5'; obtain ⟨b0a, b1a⟩ := two_cells (hc5.heap HB.out (by simp)))
                | (go_at_call 56; refine (HCL.out _ (hw0.trans hc5)).mono ?_; rintro e W6 ⟨ue, ug, rfl, hoe, hog, hc6'⟩; obtain ⟨ua, uc, rfl⟩ := (RdK.of_own hoe).shape; obtain ⟨va, vc, rfl⟩ := (RdK.of_own hog).shape; have hc6 := hc5.trans hc6'; obtain ⟨g0d, g1d⟩ := two_cells (al_old (o := .cells #[.slice ua c.es.length uc, .slice va c.gs.length vc] 25 (0, 0)) (hc6.heap HG.out (by simp)))))
              try go_at_call 57
              have hlo := ownK_lt hog
              have hc5s : W0.heap.size ≤ W5.heap.size := hc5.size
              have hl0 : w.heap.size + 1 < W0.heap.size := lt_of_block HS.out
              have hs6 := hc6.heap HS.out (by simp)
              have hl6 : w.heap.size + 1 < W6.heap.size := lt_of_block hs6
              have hc7 : Chg [] W6 ((W6.alloc (.cells #[.slice ua c.es.length uc, .slice va c.gs.length vc] 25)).alloc (.cells #[.string S, .int .i64 l] 54)) := (Chg.alloc _ _ _).trans (Chg.alloc _ _ _)
              refine (HII.out _ _ (W6.heap.size + 1) 54 (ownK_base (ownK_keep1 hog hc7) (hw0.trans hc5).size) (al_new (by simp)) (fun j hj => by have := hlo j hj; omega) ((hw0.trans hc6).trans hc7).size).mono ?_
              rintro e W8 ⟨u, rfl, ho8, hc8⟩
              have hn8 := hc8.heap (al_old (o := .cells #[.string S, .int .i64 l] 54 (0, 0)) (al_new (w := W6) (k := W6.heap.size) (o := .cells #[.slice ua c.es.length uc, .slice va c.gs.length vc] 25 (0, 0)) rfl)) (fun hh => Nat.lt_irrefl _ (hlo _ hh))
              have hs8 := hc8.heap (hc7.heap hs6 (by simp)) (fun hh => by have := ownK_ge hog _ hh; omega)
              obtain ⟨va', vc', rfl⟩ := (RdK.of_own ho8).shape
              obtain ⟨n0, n1⟩ := two_cells hn8
              have nf0 := frozen_of_row _ _ 1 _ _ hn8
              obtain ⟨r0, r1⟩ := two_cells hs8
              have f0 := frozen_of_row _ _ 0 _ _ hs8
              have f1 := frozen_of_row _ _ 1 _ _ hs8
              have hne : ¬ (w.heap.size + 1 = W6.heap.size) := by omega
              have hne' : ¬ (W6.heap.size = w.heap.size + 1) := by omega
              go_wp2_with (fail)
              have hoe8 := ownK_keep (ownK_keep1 hoe hc7) hc8 (fun j hj hj' => ownK_apart hoe hog (by decide) j hj hj')
              have hb0 : w.heap.size ≤ W5.heap.size := (hw0.trans hc5).size
              obtain ⟨hO, q0, q1, hC⟩ := (cat_end (k := 1) (x := .slice va' (insG ⟨S.data.toList, l⟩ c.gs).length vc') (c := ⟨c.es, insG ⟨S.data.toList, l⟩ c.gs⟩) hn8 hs8 hne (ownK_base hoe8 hb0) ho8).out
              refine bodyPost_ret (v := .tuple #[.agg #[.slice ua c.es.length uc, .slice va' (insG ⟨S.data.toList, l⟩ c.gs).length vc'], .int .i64 0]) (by simp [results, Tryz.f22, go_sem, q0, q1]) rfl ?_
              refine ⟨_, _, rfl, hO, ?_⟩
              refine ((((hw0.trans hc6).trans hc7).then hc8 (fun j hj hlt => ?_)).then hC (fun j hj hlt => ?_))
              · have := ownK_ge hog j hj; omega
              · rcases List.mem_cons.1 hj with rfl | hj
                · omega
                · rw [List.mem_singleton] at hj; omega

end Go.Proofs.YtldkmclfhjcicaaGreatDoor

import Derived.Test.YtldkmclfhjcicaaGreatDoorProg
import Derived.Test.YtldkmclfhjcicaaGreatDoorCRm
import Derived.Test.YtldkmclfhjcicaaGreatDoorCNam
import Derived.WalkSpells
import Derived.StillTailTactics
import Derived.Outline
namespace Go.Proofs.YtldkmclfhjcicaaGreatDoor
open Go.RowKit
set_option linter.unusedVariables false
set_option linter.unusedSimpArgs false

theorem cE_insert (es : List Ent) (g : Ent) (i : Nat) : (cE es).take (i * 4) ++ entL g ++ (cE es).drop (i * 4) = cE (es.take i ++ g :: es.drop i) := by
  unfold cE
  rw [flat_take entL 4 entL_len, flat_drop entL 4 entL_len, List.flatMap_append, List.flatMap_cons, List.append_assoc]
theorem cat_end2 {W : World} {r B : Nat} {a b u ug ur : Value} {c : Cat} {rm : List Ent} (hr : W.heap[r]? = some (.cells #[a, b] 25 (0, 0)))
    (ho : W.ownsRow B 45 4 u c.es.length (cE c.es)) (hg : W.ownsRow B 54 2 ug c.gs.length (cG c.gs)) (hm : W.ownsRow B 45 4 ur rm.length (cE rm)) :
    Hid (OwC ((W.setCell ⟨r, 0, none⟩ u).setCell ⟨r, 1, none⟩ ug) B u ug c ∧ ((W.setCell ⟨r, 0, none⟩ u).setCell ⟨r, 1, none⟩ ug).ownsRow B 45 4 ur rm.length (cE rm) ∧ ((W.setCell ⟨r, 0, none⟩ u).setCell ⟨r, 1, none⟩ ug).cell? ⟨r, 0, none⟩ = some u ∧
      ((W.setCell ⟨r, 0, none⟩ u).setCell ⟨r, 1, none⟩ ug).cell? ⟨r, 1, none⟩ = some ug ∧ Chg [r] W ((W.setCell ⟨r, 0, none⟩ u).setCell ⟨r, 1, none⟩ ug)) := by
  obtain ⟨_, _, _, _, HR2, HC2⟩ := store2 u ug hr
  obtain ⟨q0, q1⟩ := two_cells HR2.out
  exact ⟨⟨ownK_keep ho HC2.out (own_ne ho hr (by decide)), ownK_keep hg HC2.out (own_ne hg hr (by decide))⟩, ownK_keep hm HC2.out (own_ne hm hr (by decide)), q0, q1, HC2.out⟩
theorem appendNKw {P : Program} {o : Oper} {a : Act} {K : Act → World → Prop} {Q : Exit → Act → World → Prop} {wr : World} (s x : Operand) (t : TypeId)
    (ho : o.op = .call { callee := .builtin .append, args := #[s, x], argTypes := #[t, t] }) (B e k bytes : Nat) (hk : 0 < k) (z : Value) (ht : P.underlying t = some (.slice e))
    (hi : (P.info? e).map (fun i => (i.zero, i.size, i.bytes)) = some (some z, k, bytes)) (hz : z.cells.size = k) (hby : bytes ≤ 1000) (m : Nat) (news : List Value) (hm : news.length = m * k) (g0 : Nat) (hg0 : g0 = wr.heap.size)
    {v : Value} {n : Nat} {xs : List Value} (hown : wr.ownsRow B e k v n xs) (hs : a.eval s = v) (hx : a.eval x = .slice (some ⟨g0, 0, none⟩) m m) (hu : ∀ u ∈ news, u.oneCell' = true)
    (hn : n + m ≤ 1000000000) (hB : B ≤ wr.heap.size)
    (h : ∀ v' w', w'.ownsRow B e k v' (n + m) (xs ++ news) → Chg (own v) wr w' → K (a.put o.dst v') w') : Oper.wp P o a (wr.alloc (.cells news.toArray e)) K Q := by
  subst hg0
  obtain ⟨i, h1, h2, h3, h4⟩ := info_parts hi
  refine wp_append_own _ s x t ho B e i z k bytes ht h1 h2 h3 h4 hz hk v n xs hs (hown.alloc _) ⟨wr.heap.size, 0, none⟩ m m news hx hm ?_ hu (by unfold maxLen; omega) ?_ (by simp; omega) ?_
  · intro j u hj
    rw [add_at, Nat.zero_add, cell_of_row _ _ j news.toArray e (0, 0) (heap_alloc_new wr _)]
    simpa using hj
  · have : (n + m) * bytes ≤ 1000000000 * 1000 := Nat.mul_le_mul hn hby
    omega
  · intro v' w' ho' hg _
    refine h v' w' ho' ⟨hg.os, hg.tape, hg.output, Nat.le_trans (by simp) hg.size, fun k hk hkn => ?_⟩
    exact (hg.block k (by simp; omega) (fun e => hkn (by simp [own, ← e]))).trans (Below.heap_alloc _ _ _ hk)
set_option maxHeartbeats 32000000 in
set_option maxRecDepth 100000 in
theorem Add_any (w : World) (ve vg : Value) (c : Cat) (hv : RdC w ve vg c) (A T : ByteArray) (u f : Int) : Calls Tryz.prog 23 #[.agg #[ve, vg], .agg #[.string A, .int .i64 u, .string T, .int .i64 f]] w fun e w' =>
    ∃ ue ug ur, e = .returned (.tuple #[.agg #[ue, ug], ur, .int .i64 (addP c ⟨A.data.toList, u, T.data.toList, f⟩).2.2]) ∧ OwC w' w.heap.size ue ug (addP c ⟨A.data.toList, u, T.data.toList, f⟩).1 ∧
      w'.ownsRow w.heap.size 45 4 ur (addP c ⟨A.data.toList, u, T.data.toList, f⟩).2.1.length (cE (addP c ⟨A.data.toList, u, T.data.toList, f⟩).2.1) ∧ Chg [] w w' := by
  have hve := hv.1
  have hvg := hv.2
  obtain ⟨W0, hW0⟩ : ∃ W0, ((w.alloc (.cells #[ve, vg] 25)).alloc (.cells #[.string A, .int .i64 u, .string T, .int .i64 f] 45)).alloc (.cells #[.slice none 0 0, .slice none 0 0] 25) = W0 := ⟨_, rfl⟩
  have hbx : W0.heap[w.heap.size]? = some (.cells #[ve, vg] 25 (0, 0)) := by rw [← hW0]; exact al_old (al_old (al_new rfl))
  have hgb : W0.heap[w.heap.size + 1]? = some (.cells #[.string A, .int .i64 u, .string T, .int .i64 f] 45 (0, 0)) := by rw [← hW0]; exact al_old (al_new (by simp))
  have hres : W0.heap[w.heap.size + 2]? = some (.cells #[.slice none 0 0, .slice none 0 0] 25 (0, 0)) := by rw [← hW0]; exact al_new (by simp)
  have hw0 : Chg [] w W0 := by rw [← hW0]; exact ((Chg.alloc _ _ _).trans (Chg.alloc _ _ _)).trans (Chg.alloc _ _ _)
  have hk := Check_any W0 ve vg c ⟨hve.keep1 hw0, hvg.keep1 hw0⟩
  have hva := fun W => validE_any A T u f W
  obtain ⟨e, he⟩ : ∃ e : Ent, (⟨A.data.toList, u, T.data.toList, f⟩ : Ent) = e := ⟨_, rfl⟩
  have hen : e.name = A.data.toList := by rw [← he]
  have heL : ([.string A, .int .i64 u, .string T, .int .i64 f] : List Value) = entL e := by rw [← he]; unfold entL; rw [bs_of, bs_of]
  rw [he]
  rw [he] at hva
  obtain ⟨R, hR⟩ : ∃ R, addP c e = R := ⟨_, rfl⟩
  rw [hR]
  cases hvc : validC c with
  | false =>
    have hR' : R = (⟨[], []⟩, [], 1) := by rw [← hR]; simp [addP, hvc]
    subst hR'
    rw [hvc] at hk
    have HK := hid hk
    have HVA := hid hva
    have HW0 := hid hW0
    have HB := hid hbx
    have HS := hid hres
    have HG := hid hgb
    have HE := hid he
    have HEN := hid hen
    have HEL := hid heL
    clear hv hve hvg hk hW0 hbx hres hgb hva he hR hen heL hvc
    go_enter Tryz.func23, Tryz.ntmps23
    go_wp2_with (first
      | (go_at_call 16; rw [HW0.out]; refine HK.out.mono ?_; rintro e' W1 ⟨rfl, hc1⟩; obtain ⟨g0, g1, g2, g3⟩ := four_cells (hc1.heap HG.out (by simp)); have hcc1 := hw0.trans hc1; obtain ⟨r0, r1, f0, f1, HR2, HC2⟩ := store2 (.slice none 0 0) (.slice none 0 0) (hc1.heap HS.out (by simp))))
    obtain ⟨q0, q1⟩ := two_cells HR2.out
    refine bodyPost_ret (v := .tuple #[.agg #[.slice none 0 0, .slice none 0 0], .slice none 0 0, .int .i64 1]) (by simp [results, Tryz.f23, go_sem, q0, q1]) rfl ?_
    exact ⟨_, _, _, rfl, OwC.nil _ _, World.ownsRow_nil _ _ _ _, (hw0.trans hc1).then HC2.out (by simp)⟩
  | true =>
    obtain ⟨a1, a2, a3, a4, a5, a6, a7⟩ := validC_all hvc
    rw [hvc] at hk
    cases hgk : entOk e with
    | false =>
      have hR' : R = (⟨[], []⟩, [], 1) := by rw [← hR]; simp [addP, hvc, hgk]
      subst hR'
      rw [hgk] at hva
      have HK := hid hk
      have HVA := hid hva
      have HW0 := hid hW0
      have HB := hid hbx
      have HS := hid hres
      have HG := hid hgb
      have HE := hid he
      have HEN := hid hen
      have HEL := hid heL
      clear hv hve hvg hk hW0 hbx hres hgb hva he hR hen heL hvc hgk a1 a2 a3 a4 a5 a6 a7
      go_enter Tryz.func23, Tryz.ntmps23
      go_wp2_with (first
        | (go_at_call 16; rw [HW0.out]; refine HK.out.mono ?_; rintro e' W1 ⟨rfl, hc1⟩; obtain ⟨g0, g1, g2, g3⟩ := four_cells (hc1.heap HG.out (by simp)); have hcc1 := hw0.trans hc1)
        | (go_at_call 38; refine (HVA.out _).mono ?_; rintro e' W2 ⟨rfl, hc2'⟩; have hc2 := hc1.trans hc2'; obtain ⟨b0, b1⟩ := two_cells (hc2.heap HB.out (by simp)); obtain ⟨g0a, g1a, g2a, g3a⟩ := four_cells (hc2.heap HG.out (by simp)); obtain ⟨r0, r1, f0, f1, HR2, HC2⟩ := store2 (.slice none 0 0) (.slice none 0 0) (hc2.heap HS.out (by simp))))
      obtain ⟨q0, q1⟩ := two_cells HR2.out
      refine bodyPost_ret (v := .tuple #[.agg #[.slice none 0 0, .slice none 0 0], .slice none 0 0, .int .i64 1]) (by simp [results, Tryz.f23, go_sem, q0, q1]) rfl ?_
      exact ⟨_, _, _, rfl, OwC.nil _ _, World.ownsRow_nil _ _ _ _, (hw0.trans hc2).then HC2.out (by simp)⟩
    | true =>
      rw [hgk] at hva
      have hA44 : A.data.toList.length ≤ 1000000 := by have h44 := (entOk_cases hgk).1; rw [hen] at h44; omega
      have hsg := fun (W : World) (hW : Chg [] w W) => seekG_any W vg c.gs A (hvg.keep1 hW) (by omega) a6
      have hse := fun (W : World) (hW : Chg [] w W) => seekE_any W ve c.es A (hve.keep1 hW) (by omega) a4
      obtain ⟨i, hi⟩ : ∃ i, lbS (namesS c.es) A.data.toList = i := ⟨_, rfl⟩
      obtain ⟨i', hi'⟩ : ∃ i', lbS (basesS c.gs) A.data.toList = i' := ⟨_, rfl⟩
      rw [hi] at hse
      rw [hi'] at hsg
      by_cases hme : A.data.toList ∈ namesS c.es
      · have hR' : R = (⟨[], []⟩, [], 4) := by rw [← hR]; simp [addP, hvc, hgk, hen, hme]
        subst hR'
        rw [decide_eq_true hme] at hse
        have HK := hid hk
        have HVA := hid hva
        have HW0 := hid hW0
        have HB := hid hbx
        have HS := hid hres
        have HG := hid hgb
        have HE := hid he
        have HEN := hid hen
        have HEL := hid heL
        have HSG := hid hsg
        have HSE := hid hse
        clear hv hve hvg hk hW0 hbx hres hgb hva he hR hen heL hvc hgk a1 a2 a3 a4 a5 a6 a7 hi hi' hsg hse hme
        go_enter Tryz.func23, Tryz.ntmps23
        go_wp2_with (first
          | (go_at_call 16; rw [HW0.out]; refine HK.out.mono ?_; rintro e' W1 ⟨rfl, hc1⟩; obtain ⟨g0, g1, g2, g3⟩ := four_cells (hc1.heap HG.out (by simp)); have hcc1 := hw0.trans hc1)
          | (go_at_call 38; refine (HVA.out _).mono ?_; rintro e' W2 ⟨rfl, hc2'⟩; have hc2 := hc1.trans hc2'; obtain ⟨b0, b1⟩ := two_cells (hc2.heap HB.out (by simp)); obtain ⟨g0a, g1a, g2a, g3a⟩ := four_cells (hc2.heap HG.out (by simp)))
          | (go_at_call 39; refine (HSE.out _ (hw0.trans hc2)).mono ?_; rintro e' W3 ⟨rfl, hc3'⟩; have hc3 := hc2.trans hc3'; obtain ⟨b0', b1'⟩ := two_cells (hc3.heap HB.out (by simp)); obtain ⟨g0b, g1b, g2b, g3b⟩ := four_cells (hc3.heap HG.out (by simp)))
          | (go_at_call 54; refine (HSG.out _ (hw0.trans hc3)).mono ?_; rintro e' W4 ⟨rfl, hc4'⟩; have hc4 := hc3.trans hc4'; obtain ⟨b0'', b1''⟩ := two_cells (hc4.heap HB.out (by simp)); obtain ⟨r0, r1, f0, f1, HR2, HC2⟩ := store2 (.slice none 0 0) (.slice none 0 0) (hc4.heap HS.out (by simp))))
        obtain ⟨q0, q1⟩ := two_cells HR2.out
        refine bodyPost_ret (v := .tuple #[.agg #[.slice none 0 0, .slice none 0 0], .slice none 0 0, .int .i64 4]) (by simp [results, Tryz.f23, go_sem, q0, q1]) rfl ?_
        exact ⟨_, _, _, rfl, OwC.nil _ _, World.ownsRow_nil _ _ _ _, (hw0.trans hc4).then HC2.out (by simp)⟩
      · rw [decide_eq_false hme] at hse
        by_cases hmg : A.data.toList ∈ basesS c.gs
        · have hR' : R = (⟨[], []⟩, [], 4) := by rw [← hR]; simp [addP, hvc, hgk, hen, hmg, hme]
          subst hR'
          rw [decide_eq_true hmg] at hsg
          have HK := hid hk
          have HVA := hid hva
          have HW0 := hid hW0
          have HB := hid hbx
          have HS := hid hres
          have HG := hid hgb
          have HE := hid he
          have HEN := hid hen
          have HEL := hid heL
          have HSG := hid hsg
          have HSE := hid hse
          clear hv hve hvg hk hW0 hbx hres hgb hva he hR hen heL hvc hgk a1 a2 a3 a4 a5 a6 a7 hi hi' hsg hse hmg hme
          go_enter Tryz.func23, Tryz.ntmps23
          go_wp2_with (first
            | (go_at_call 16; rw [HW0.out]; refine HK.out.mono ?_; rintro e' W1 ⟨rfl, hc1⟩; obtain ⟨g0, g1, g2, g3⟩ := four_cells (hc1.heap HG.out (by simp)); have hcc1 := hw0.trans hc1)
            | (go_at_call 38; refine (HVA.out _).mono ?_; rintro e' W2 ⟨rfl, hc2'⟩; have hc2 := hc1.trans hc2'; obtain ⟨b0, b1⟩ := two_cells (hc2.heap HB.out (by simp)); obtain ⟨g0a, g1a, g2a, g3a⟩ := four_cells (hc2.heap HG.out (by simp)))
            | (go_at_call 39; refine (HSE.out _ (hw0.trans hc2)).mono ?_; rintro e' W3 ⟨rfl, hc3'⟩; have hc3 := hc2.trans hc3'; obtain ⟨b0', b1'⟩ := two_cells (hc3.heap HB.out (by simp)); obtain ⟨g0b, g1b, g2b, g3b⟩ := four_cells (hc3.heap HG.out (by simp)))
            | (go_at_call 54; refine (HSG.out _ (hw0.trans hc3)).mono ?_; rintro e' W4 ⟨rfl, hc4'⟩; have hc4 := hc3.trans hc4'; obtain ⟨b0'', b1''⟩ := two_cells (hc4.heap HB.out (by simp)); obtain ⟨r0, r1, f0, f1, HR2, HC2⟩ := store2 (.slice none 0 0) (.slice none 0 0) (hc4.heap HS.out (by simp))))
          obtain ⟨q0, q1⟩ := two_cells HR2.out
          refine bodyPost_ret (v := .tuple #[.agg #[.slice none 0 0, .slice none 0 0], .slice none 0 0, .int .i64 4]) (by simp [results, Tryz.f23, go_sem, q0, q1]) rfl ?_
          exact ⟨_, _, _, rfl, OwC.nil _ _, World.ownsRow_nil _ _ _ _, (hw0.trans hc4).then HC2.out (by simp)⟩
        · rw [decide_eq_false hmg] at hsg
          have hin : insE e c.es = c.es.take i ++ e :: c.es.drop i := by rw [insE_at _ c.es a4 (by rw [hen]; exact hme)]; unfold namesS at hi; rw [hen, hi]
          have hil : i ≤ c.es.length := by rw [← hi]; have := lbS_le (namesS c.es) A.data.toList; simpa [namesS] using this
          have hcl := fun (W : World) (hW : Chg [] w W) => clone_any W ve vg c ⟨hve.keep1 hW, hvg.keep1 hW⟩ (by omega) (by omega)
          obtain ⟨es', hes'⟩ : ∃ es', insE e c.es = es' := ⟨_, rfl⟩
          have hinl : es'.length = c.es.length + 1 := by rw [← hes', hin]; simp; omega
          have hii := fun (W : World) (v : Value) (gu : Nat) (tu : TypeId) (h : W.ownsRow w.heap.size 45 4 v c.es.length (cE c.es)) (hU : W.heap[gu]? = some (.cells #[.string A, .int .i64 u, .string T, .int .i64 f] tu (0, 0))) (hgu : ∀ j ∈ own v, gu ≠ j) (hBw : w.heap.size ≤ W.heap.size) =>
            insE_any W w.heap.size v c.es.length i gu tu (cE c.es) [.string A, .int .i64 u, .string T, .int .i64 f] h hil (by omega) (cE_one c.es) hU rfl (by intro x hx; simp at hx; rcases hx with rfl | rfl | rfl | rfl <;> rfl) hgu hBw
          rw [heL] at hii
          rw [cE_insert, ← hin, hes', ← hinl] at hii
          have hi64 : (i : Int) ≤ 256 := by omega
          have hAs : A.size ≤ 1000000 := by rw [← bs_len]; exact hA44
          have hmx : max 0 (wrap64 ((A.size : Int) - 9)) = ((A.size - 9 : Nat) : Int) := by
            have : wrap64 ((A.size : Int) - 9) = (A.size : Int) - 9 := by first | (rw [wrap64_eq]; omega) | (unfold wrap64; omega) | (simp only [wrap64]; omega)
            rw [this]; omega
          have hm9 : A.size - 9 ≤ A.size := Nat.sub_le _ _
          have HK := hid hk
          have HVA := hid hva
          have HW0 := hid hW0
          have HB := hid hbx
          have HS := hid hres
          have HG := hid hgb
          have HE := hid he
          have HEN := hid hen
          have HEL := hid heL
          have HSG := hid hsg
          have HSE := hid hse
          have HCL := hid hcl
          have HII := hid hii
          have HES := hid hes'
          have HVC := hid hvc
          have HGK := hid hgk
          have HME := hid hme
          have HMG := hid hmg
          have HR := hid hR
          have HIL := hid hinl
          have HVE := hid hve
          have HVG := hid hvg
          have HA4 := hid a4
          have HA6 := hid a6
          clear hv hve hvg hk hW0 hbx hres hgb hva he hR hen heL hvc hgk a4 a6 a3 a5 a7 hsg hse hi hi' hme hmg hin hes' hinl hcl hii
          go_enter Tryz.func23, Tryz.ntmps23
          go_wp2_with (first
            | (go_at_call 16; rw [HW0.out]; refine HK.out.mono ?_; rintro e' W1 ⟨rfl, hc1⟩; obtain ⟨g0, g1, g2, g3⟩ := four_cells (hc1.heap HG.out (by simp)); have hcc1 := hw0.trans hc1)
            | (go_at_call 38; refine (HVA.out _).mono ?_; rintro e' W2 ⟨rfl, hc2'⟩; have hc2 := hc1.trans hc2'; obtain ⟨b0, b1⟩ := two_cells (hc2.heap HB.out (by simp)); obtain ⟨g0a, g1a, g2a, g3a⟩ := four_cells (hc2.heap HG.out (by simp)))
            | (go_at_call 39; refine (HSE.out _ (hw0.trans hc2)).mono ?_; rintro e' W3 ⟨rfl, hc3'⟩; have hc3 := hc2.trans hc3'; obtain ⟨b0', b1'⟩ := two_cells (hc3.heap HB.out (by simp)); obtain ⟨g0b, g1b, g2b, g3b⟩ := four_cells (hc3.heap HG.out (by simp)))
            | (go_at_call 54; refine (HSG.out _ (hw0.trans hc3)).mono ?_; rintro e' W4 ⟨rfl, hc4'⟩; have hc4 := hc3.trans hc4'; obtain ⟨b0'', b1''⟩ := two_cells (hc4.heap HB.out (by simp)))
            | (go_at_call 56; refine (HCL.out _ (hw0.trans hc4)).mono ?_; rintro e' W6 ⟨ue, ug, rfl, hoe, hog, hc6'⟩; obtain ⟨ua, uc, rfl⟩ := (RdK.of_own hoe).shape; obtain ⟨va, vc, rfl⟩ := (RdK.of_own hog).shape; have hc6 := hc4.trans hc6'; obtain ⟨g0d, g1d, g2d, g3d⟩ := four_cells (al_old (o := .cells #[.slice ua c.es.length uc, .slice va c.gs.length vc] 25 (0, 0)) (hc6.heap HG.out (by simp)))))
          try go_at_call 58
          have hlo := ownK_lt hoe
          have hc4s : W0.heap.size ≤ W4.heap.size := hc4.size
          have hl0 : w.heap.size + 2 < W0.heap.size := lt_of_block HS.out
          have hs6 := hc6.heap HS.out (by simp)
          have hl6 : w.heap.size + 2 < W6.heap.size := lt_of_block hs6
          have hc7 : Chg [] W6 ((W6.alloc (.cells #[.slice ua c.es.length uc, .slice va c.gs.length vc] 25)).alloc (.cells #[.string A, .int .i64 u, .string T, .int .i64 f] 45)) := (Chg.alloc _ _ _).trans (Chg.alloc _ _ _)
          refine (HII.out _ _ (W6.heap.size + 1) 45 (ownK_base (ownK_keep1 hoe hc7) (hw0.trans hc4).size) (by rw [← HEL.out]; exact al_new (by simp)) (fun j hj => by have := hlo j hj; omega) ((hw0.trans hc6).trans hc7).size).mono ?_
          rintro e' W8 ⟨u8, rfl, ho8, hc8⟩
          have hn8 := hc8.heap (al_old (o := .cells #[.string A, .int .i64 u, .string T, .int .i64 f] 45 (0, 0)) (al_new (w := W6) (k := W6.heap.size) (o := .cells #[.slice ua c.es.length uc, .slice va c.gs.length vc] 25 (0, 0)) rfl)) (fun hh => Nat.lt_irrefl _ (hlo _ hh))
          have hold : ∀ {k : Nat} {ob : Obj}, W0.heap[k]? = some ob → W8.heap[k]? = some ob := fun {k ob} hk => hc8.heap (hc7.heap (hc6.heap hk (by simp)) (by simp)) (fun hh => by have := ownK_ge hoe _ hh; have := lt_of_block hk; omega)
          obtain ⟨xa, xc, rfl⟩ := (RdK.of_own ho8).shape
          have hlen : es'.length = c.es.length + 1 := HIL.out
          obtain ⟨L, hL⟩ : ∃ L, es'.length = L := ⟨_, rfl⟩
          rw [hL] at hlen ho8
          try rw [hL]
          obtain ⟨n0, n1⟩ := two_cells hn8
          have nf0 := frozen_of_row _ _ 0 _ _ hn8
          obtain ⟨g0e, g1e, g2e, g3e⟩ := four_cells (hold HG.out)
          obtain ⟨b0e, b1e⟩ := two_cells (hold HB.out)
          have hne1 : ¬ (w.heap.size + 1 = W6.heap.size) := by omega
          have hne0 : ¬ (w.heap.size = W6.heap.size) := by omega
          go_wp2_with (fail)
          subst hlen
          obtain ⟨Bb, hBb⟩ : ∃ Bb, A.extract 0 (max 0 ((A.size : Int) - 9)).toNat = Bb := ⟨_, rfl⟩
          rw [hBb]
          have hBd : Bb.data.toList = baseOf e.name := by
            rw [← hBb, show (max 0 ((A.size : Int) - 9)).toNat = A.size - 9 from by omega, HEN.out]
            unfold baseOf
            rw [bs_len]; simp
          have HBB := hid hBb
          have HBD := hid hBd
          obtain ⟨x8, hx8⟩ : ∃ x8, Value.slice xa (c.es.length + 1) xc = x8 := ⟨_, rfl⟩
          obtain ⟨W9, hW9⟩ : ∃ W9, W8.setCell ⟨W6.heap.size, 0, none⟩ (Value.slice xa (c.es.length + 1) xc) = W9 := ⟨_, rfl⟩
          have c9 : Chg [W6.heap.size] W8 W9 := by rw [← hW9]; exact Chg.setCell _ (.inl (by simp)) _
          have hn9 : W9.heap[W6.heap.size]? = some (.cells #[.slice xa (c.es.length + 1) xc, .slice va c.gs.length vc] 25 (0, 0)) := by rw [← hW9]; exact heap_setCell_same _ W6.heap.size 0 _ _ _ hn8
          have hold9 : ∀ {k : Nat} {ob : Obj}, W0.heap[k]? = some ob → W9.heap[k]? = some ob := fun {k ob} hk => c9.heap (hold hk) (fun hh => by have := lt_of_block hk; rw [List.mem_singleton] at hh; have := hc6.size; omega)
          have hs9 := hold9 HS.out
          have hb9 := hold9 HB.out
          have hg9 := hold9 HG.out
          have ho9 := ownK_keep ho8 c9 (own_ne ho8 hn8 (by decide))
          have hb0 : w.heap.size ≤ W4.heap.size := (hw0.trans hc4).size
          have hog8 := ownK_base (ownK_keep (ownK_keep1 hog hc7) hc8 (fun j hj hj' => ownK_apart hoe hog (by decide) j hj' hj)) hb0
          have hog9 := ownK_keep hog8 c9 (own_ne hog8 hn8 (by decide))
          have HC9 : Chg [] w W9 := (((hw0.trans hc6).trans hc7).then hc8 (fun j hj hlt => by have := ownK_ge hoe j hj; omega)).then c9 (fun j hj hlt => by rw [List.mem_singleton] at hj; omega)
          rw [hW9]
          have HVE9 := hid (HVE.out.keep1 HC9)
          obtain ⟨nb, hnb⟩ : ∃ nb, W6.heap.size = nb := ⟨_, rfl⟩
          rw [hnb] at hn9 hne1 hne0 ⊢
          have hnb2 : ¬ (w.heap.size + 2 = nb) := by omega
          have hnb3 : ¬ (nb = w.heap.size + 2) := by omega
          have hseg := seekG_any W9 vg c.gs Bb (HVG.out.keep1 HC9) (by omega) HA6.out
          have HSEG := hid hseg
          have HN9 := hid hn9
          have HO9 := hid ho9
          have HOG9 := hid hog9
          have HG9 := hid hg9
          have HB9 := hid hb9
          obtain ⟨rb, hrb⟩ : ∃ rb, w.heap.size + 2 = rb := ⟨_, rfl⟩
          rw [show w.heap.size + 1 + 1 = rb from hrb]
          rw [hrb] at hs9 hnb2 hnb3
          have HRB := hid hrb
          clear hrb
          have HS9 := hid hs9
          have HX8 := hid hx8
          have HNB : Hid (w.heap.size + 2 < nb) := hid (by rw [← hnb]; exact hl6)
          clear hold hold9 hW9 hnb c9 hn8 ho8 hog hoe hog8 hs6 hc7 hc8 hl6 hl0 hlo hn9 hs9 hb9 hg9 ho9 hog9 hseg hBb hBd nf0 n0 n1 g0e g1e g2e g3e b0e b1e
          clear hx8
          refine HSEG.out.mono ?_
          rintro e' W10 ⟨rfl, hc10⟩
          obtain ⟨gi, hgi⟩ : ∃ gi, lbS (basesS c.gs) Bb.data.toList = gi := ⟨_, rfl⟩
          rw [hgi]
          have HC10 := HC9.trans hc10
          have HN10 := hid (hc10.heap HN9.out (by simp))
          have HS10 := hid (hc10.heap HS9.out (by simp))
          have HO10 := hid (ownK_keep1 HO9.out hc10)
          have HOG10 := hid (ownK_keep1 HOG9.out hc10)
          obtain ⟨n0, n1⟩ := two_cells HN10.out
          obtain ⟨g0f, g1f, g2f, g3f⟩ := four_cells (hc10.heap HG9.out (by simp))
          obtain ⟨b0f, b1f⟩ := two_cells (hc10.heap HB9.out (by simp))
          by_cases hbg : Bb.data.toList ∈ basesS c.gs
          · rw [decide_eq_true hbg]
            obtain ⟨nn, hnn⟩ : ∃ nn, numS Bb.data.toList A.data.toList = nn := ⟨_, rfl⟩
            have hBs : Bb.size ≤ 1000000 := by rw [← bs_len, HBD.out]; unfold baseOf; rw [List.length_take, HEN.out, bs_len]; omega
            have hnum := number_any Bb A hBs W10
            rw [hnn] at hnum
            have HNUM := hid hnum
            clear hnum
            by_cases h0 : 0 < nn
            · have h0i : (0 : Int) < (nn : Int) := by omega
              have hgl : es'.length = c.es.length + 1 := HIL.out
              have HGN := hid (generations_any W10 (.slice xa (c.es.length + 1) xc) (.slice va c.gs.length vc) es' Bb hBs (by omega) (by unfold RdE; rw [hgl]; exact RdK.of_own HO10.out) ⟨_, _, _, rfl⟩)
              clear hgl
              go_wp2_with (first
                | (go_at_call 59; refine HNUM.out.mono ?_; rintro e' _ ⟨rfl, rfl⟩)
                | (go_at_call 42; refine HGN.out.mono ?_; rintro e' W11 ⟨gq, rfl, hgo, hc11⟩))
              obtain ⟨ix, hix⟩ : ∃ ix, idxG Bb.data.toList es' = ix := ⟨_, rfl⟩
              have hgl : es'.length = c.es.length + 1 := HIL.out
              rw [hix] at hgo
              have hem : e ∈ es' := by rw [← HES.out]; exact (mem_insE e c.es e).2 (.inl rfl)
              have hK0 : 0 < ix.length := by
                rw [← hix, idxG_length]
                refine List.length_pos_of_mem (a := e) ?_
                unfold gensS
                rw [List.mem_filter, HEN.out, hnn]
                exact ⟨hem, by simpa using h0⟩
              have hixl : ∀ k, k < ix.length → ix.getD k 0 < c.es.length + 1 := fun k hk => by
                rw [← hgl]
                refine idxG_lt (b := Bb.data.toList) ?_
                rw [hix, List.getD_eq_getElem?_getD, List.getElem?_eq_getElem hk]; exact List.getElem_mem hk
              have hixc : ∀ k, k < ix.length → (ix.map en)[k]? = some (.int .i64 (ix.getD k 0 : Nat)) := fun k hk => by
                rw [List.getElem?_map, List.getD_eq_getElem?_getD, List.getElem?_eq_getElem hk]; rfl
              obtain ⟨K, hKe⟩ : ∃ K, ix.length = K := ⟨_, rfl⟩
              have hKL : K ≤ c.es.length + 1 := by rw [← hKe, ← hix, ← hgl]; exact Nat.le_trans (List.length_filter_le _ _) (by simp)
              rw [hKe] at hgo hK0 hixl hixc
              have hrE : RdE W11 (.slice xa (c.es.length + 1) xc) es' := by unfold RdE; rw [hgl]; exact RdK.of_own (ownK_keep1 HO10.out hc11)
              rcases (RdK.of_own hgo).parts with ⟨h, _⟩ | ⟨qb, qo, qc, rfl, q1, q2, q3, QC⟩
              · omega
              rcases hrE.parts hgl with ⟨_, h, _⟩ | ⟨xb, xo, xd, hxv, x1, x2, x3, xlt, XC⟩
              · omega
              cases hxv
              obtain ⟨j1, hj1⟩ : ∃ j, ix.getD (K - 1) 0 = j := ⟨_, rfl⟩
              obtain ⟨j0, hj0⟩ : ∃ j, ix.getD 0 0 = j := ⟨_, rfl⟩
              have d1 := QC.out (K - 1) _ (hixc (K - 1) (by omega))
              have d0 := QC.out 0 _ (hixc 0 (by omega))
              have hjl1 := hixl (K - 1) (by omega)
              have hjl0 := hixl 0 (by omega)
              rw [hj1] at d1 hjl1
              rw [hj0] at d0 hjl0
              have y1 := (XC.out j1 hjl1).1
              obtain ⟨n0, n1⟩ := two_cells (hc11.heap HN10.out (by simp))
              obtain ⟨g0g, g1g, g2g, g3g⟩ := four_cells ((hc10.trans hc11).heap HG9.out (by simp))
              have hwK : IntKind.i64.wrap ((K : Int) - 1) = (K : Int) - 1 := by rw [IntKind.wrap_i64]; omega
              have hK1i : (1 : Int) ≤ (K : Int) := by omega
              have hK0i : (0 : Int) ≤ (K : Int) - 1 := by omega
              have hKn : ((K : Int) - 1).toNat = K - 1 := by omega
              have hKlt : K - 1 < K := by omega
              have hj1i : (j1 : Int) < (c.es.length : Int) + 1 := by omega
              obtain ⟨N1, hN1⟩ : ∃ N1, (⟨(es'.getD j1 default).name.toArray⟩ : ByteArray) = N1 := ⟨_, rfl⟩
              rw [hN1] at y1
              have HN1 := hid hN1
              have HIX := hid hix
              have HJ1 := hid hj1
              have HJ0 := hid hj0
              have HKE := hid hKe
              have HIXC0 := hid (hixc 0 (by omega))
              clear hN1 hix hj1 hj0 hKe hixc hixl hrE
              have l0 := later_cell n0
              have l1 := later_cell d1
              have l2 := later_cell y1
              have l3 := later_cell g0g
              refine wp_region_later (by kernel_rfl) (by kernel_rfl) (Chg.refl [] W11) ?_
              repeat (first | go_big_quiet_step (fail) | quiet_step (fail))
              refine wpQuiet_nil ?_
              rintro W12 ⟨⟨_, hc12⟩, rfl⟩
              clear l0 l1 l2 l3
              have HC12 := (HC10.trans hc11).trans hc12
              have hc13 := hc11.trans hc12
              have HN12 := hid (hc13.heap HN10.out (by simp))
              have HS12 := hid (hc13.heap HS10.out (by simp))
              have HO12 := hid (ownK_keep1 HO10.out hc13)
              have HOG12 := hid (ownK_keep1 HOG10.out hc13)
              obtain ⟨n0a, n1a⟩ := two_cells HN12.out
              obtain ⟨b0g, b1g⟩ := two_cells ((hc10.trans hc13).heap HB9.out (by simp))
              obtain ⟨g0h, g1h, g2h, g3h⟩ := four_cells ((hc10.trans hc13).heap HG9.out (by simp))
              have hgg : baseOf e.name ∈ basesS c.gs ∧ 0 < numS (baseOf e.name) e.name := by rw [← HBD.out, HEN.out, hnn]; exact ⟨hbg, h0⟩
              have hlast : es'.getD j1 default = (gensS es' (baseOf e.name)).getLastD default := by
                have hk : K - 1 < (idxG (baseOf e.name) es').length := by rw [← HBD.out, HIX.out, HKE.out]; omega
                have h := idxG_get (baseOf e.name) es' (K - 1) hk
                rw [← HBD.out, HIX.out, HJ1.out, HBD.out] at h
                rw [h, List.getLastD_eq_getLast?, List.getLast?_eq_getElem?, List.getD_eq_getElem?_getD, ← idxG_length, ← HBD.out, HIX.out, HKE.out]
              have hgcnt : (gensS es' (baseOf e.name)).length = K := by rw [← idxG_length, ← HBD.out, HIX.out, HKE.out]
              have HLAST := hid hlast
              have HGCNT := hid hgcnt
              have HGG := hid hgg
              have HNN := hid hnn
              have HGI := hid hgi
              have HGL := hid hgl
              clear hlast hgcnt hgg hnn hgl hem g0 g1 g2 g3 g0a g1a g2a g3a g0b g1b g2b g3b g0d g1d g2d g3d g0f g1f g2f g3f g0g g1g g2g g3g b0 b1 b0' b1' b0'' b1'' b0f b1f n0 n1 d1 y1
              by_cases hnm : N1.data.toList = A.data.toList
              · have hsame : ¬ ((gensS es' (baseOf e.name)).getLastD default).name ≠ e.name := by
                  rw [← HLAST.out, HEN.out, ← hnm, ← HN1.out]; simp
                have hgi1 : gi < c.gs.length := by
                  have h := (lbS_mem (basesS c.gs) Bb.data.toList HA6.out).2 hbg
                  rw [hgi] at h
                  have := (List.getElem?_eq_some_iff.1 h).1
                  simpa [basesS] using this
                have hrG : RdG W12 vg c.gs := HVG.out.keep1 HC12
                obtain ⟨M, hM⟩ : ∃ M, c.gs.length = M := ⟨_, rfl⟩
                have HMe := hid hM
                rcases hrG.parts hM with ⟨h, _, _⟩ | ⟨zb, zo, zd, rfl, z1, z2, z3, zlt, ZC⟩
                · rw [h] at hgi1; simp at hgi1
                rw [hM] at hgi1
                obtain ⟨lim, hlimE⟩ : ∃ lim, (c.gs.getD gi default).limit = lim := ⟨_, rfl⟩
                have zc := (ZC.out gi hgi1).2
                rw [hlimE] at zc
                have HLIM := hid hlimE
                have hgii : (gi : Int) < (M : Int) := by omega
                have HGETG : Hid ((c.gs.getD (lbS (basesS c.gs) (baseOf e.name)) default).limit = lim) := hid (by rw [← HBD.out, hgi]; exact HLIM.out)
                have HSAME := hid hsame
                clear hlimE hM ZC hrG hsame hgi
                obtain rfl : A = N1 := (str_inj hnm).symm
                clear hnm
                rw [show (!A.toList == A.toList) = false from by simp]
                by_cases hlim : lim < (K : Int)
                · have d0' := hc12.cell d0 (by simp)
                  rw [Nat.add_zero] at d0'
                  obtain ⟨y0, y5, y2, y3⟩ := XC.out j0 hjl0
                  replace y0 := hc12.cell y0 (by simp)
                  replace y5 := hc12.cell y5 (by simp)
                  replace y2 := hc12.cell y2 (by simp)
                  replace y3 := hc12.cell y3 (by simp)
                  obtain ⟨x0, hx0⟩ : ∃ x, es'.getD j0 default = x := ⟨_, rfl⟩
                  rw [hx0] at y0 y5 y2 y3
                  have HX0 := hid hx0
                  have hj0i : (j0 : Int) < (c.es.length : Int) + 1 := by omega
                  have hK0' : (0 : Int) < (K : Int) := by omega
                  clear hx0 d0
                  go_wp2_with (fail)
                  refine region_held (S := fun w' => Chg [] W12 w') (by kernel_rfl) (n := 11) rfl (l := #[false, false, false, false, false, false, false, false, false, false, false]) rfl ?_
                  have hS0 : Chg [] W12 W12.drew := Chg.drew [] W12
                  first | (refine held_take' 0 106 (listed' := #[true, false, false, false, false, false, false, false, false, false, false]) (v := ?v1) (t' := ?t1) rfl rfl (by kernel_rfl) (by rfl) ?hv1 (fun _ _ _ h => h) hS0 rfl ?ht1 ?rest1; (case hv1 => (intro W' hW'; have q0 := hW'.cell n0a (by simp); have q1 := hW'.cell d0' (by simp); have q2 := hW'.cell y0 (by simp); have q3 := hW'.cell y5 (by simp); have q4 := hW'.cell y2 (by simp); have q5 := hW'.cell y3 (by simp); go_simp; try with_reducible rfl)); case ht1 => (simp only [List.setIfInBounds_toArray, List.set_cons_zero, List.set_cons_succ]; with_reducible rfl)) | (refine held_skip' 0 106 (listed' := #[true, false, false, false, false, false, false, false, false, false, false]) (t' := ?t1) rfl rfl (by kernel_rfl) (by rfl) (fun _ _ _ h => h) hS0 rfl ?ht1 ?rest1; case ht1 => (simp only [List.setIfInBounds_toArray, List.set_cons_zero, List.set_cons_succ]; with_reducible rfl))
                  first | (refine held_take' 1 107 (listed' := #[true, true, false, false, false, false, false, false, false, false, false]) (v := ?v2) (t' := ?t2) rfl rfl (by kernel_rfl) (by rfl) ?hv2 (fun _ _ _ h => h) hS0 rfl ?ht2 ?rest2; (case hv2 => (intro W' hW'; have q0 := hW'.cell n0a (by simp); have q1 := hW'.cell d0' (by simp); have q2 := hW'.cell y0 (by simp); have q3 := hW'.cell y5 (by simp); have q4 := hW'.cell y2 (by simp); have q5 := hW'.cell y3 (by simp); go_simp; try with_reducible rfl)); case ht2 => (simp only [List.setIfInBounds_toArray, List.set_cons_zero, List.set_cons_succ]; with_reducible rfl)) | (refine held_skip' 1 107 (listed' := #[true, true, false, false, false, false, false, false, false, false, false]) (t' := ?t2) rfl rfl (by kernel_rfl) (by rfl) (fun _ _ _ h => h) hS0 rfl ?ht2 ?rest2; case ht2 => (simp only [List.setIfInBounds_toArray, List.set_cons_zero, List.set_cons_succ]; with_reducible rfl))
                  first | (refine held_take' 2 108 (listed' := #[true, true, true, false, false, false, false, false, false, false, false]) (v := ?v3) (t' := ?t3) rfl rfl (by kernel_rfl) (by rfl) ?hv3 (fun _ _ _ h => h) hS0 rfl ?ht3 ?rest3; (case hv3 => (intro W' hW'; have q0 := hW'.cell n0a (by simp); have q1 := hW'.cell d0' (by simp); have q2 := hW'.cell y0 (by simp); have q3 := hW'.cell y5 (by simp); have q4 := hW'.cell y2 (by simp); have q5 := hW'.cell y3 (by simp); go_simp; try with_reducible rfl)); case ht3 => (simp only [List.setIfInBounds_toArray, List.set_cons_zero, List.set_cons_succ]; with_reducible rfl)) | (refine held_skip' 2 108 (listed' := #[true, true, true, false, false, false, false, false, false, false, false]) (t' := ?t3) rfl rfl (by kernel_rfl) (by rfl) (fun _ _ _ h => h) hS0 rfl ?ht3 ?rest3; case ht3 => (simp only [List.setIfInBounds_toArray, List.set_cons_zero, List.set_cons_succ]; with_reducible rfl))
                  first | (refine held_take' 3 109 (listed' := #[true, true, true, true, false, false, false, false, false, false, false]) (v := ?v4) (t' := ?t4) rfl rfl (by kernel_rfl) (by rfl) ?hv4 (fun _ _ _ h => h) hS0 rfl ?ht4 ?rest4; (case hv4 => (intro W' hW'; have q0 := hW'.cell n0a (by simp); have q1 := hW'.cell d0' (by simp); have q2 := hW'.cell y0 (by simp); have q3 := hW'.cell y5 (by simp); have q4 := hW'.cell y2 (by simp); have q5 := hW'.cell y3 (by simp); go_simp; try with_reducible rfl)); case ht4 => (simp only [List.setIfInBounds_toArray, List.set_cons_zero, List.set_cons_succ]; with_reducible rfl)) | (refine held_skip' 3 109 (listed' := #[true, true, true, true, false, false, false, false, false, false, false]) (t' := ?t4) rfl rfl (by kernel_rfl) (by rfl) (fun _ _ _ h => h) hS0 rfl ?ht4 ?rest4; case ht4 => (simp only [List.setIfInBounds_toArray, List.set_cons_zero, List.set_cons_succ]; with_reducible rfl))
                  first | (refine held_take' 4 110 (listed' := #[true, true, true, true, true, false, false, false, false, false, false]) (v := ?v5) (t' := ?t5) rfl rfl (by kernel_rfl) (by rfl) ?hv5 (fun _ _ _ h => h) hS0 rfl ?ht5 ?rest5; (case hv5 => (intro W' hW'; have q0 := hW'.cell n0a (by simp); have q1 := hW'.cell d0' (by simp); have q2 := hW'.cell y0 (by simp); have q3 := hW'.cell y5 (by simp); have q4 := hW'.cell y2 (by simp); have q5 := hW'.cell y3 (by simp); go_simp; try with_reducible rfl)); case ht5 => (simp only [List.setIfInBounds_toArray, List.set_cons_zero, List.set_cons_succ]; with_reducible rfl)) | (refine held_skip' 4 110 (listed' := #[true, true, true, true, true, false, false, false, false, false, false]) (t' := ?t5) rfl rfl (by kernel_rfl) (by rfl) (fun _ _ _ h => h) hS0 rfl ?ht5 ?rest5; case ht5 => (simp only [List.setIfInBounds_toArray, List.set_cons_zero, List.set_cons_succ]; with_reducible rfl))
                  first | (refine held_take' 5 111 (listed' := #[true, true, true, true, true, true, false, false, false, false, false]) (v := ?v6) (t' := ?t6) rfl rfl (by kernel_rfl) (by rfl) ?hv6 (fun _ _ _ h => h) hS0 rfl ?ht6 ?rest6; (case hv6 => (intro W' hW'; have q0 := hW'.cell n0a (by simp); have q1 := hW'.cell d0' (by simp); have q2 := hW'.cell y0 (by simp); have q3 := hW'.cell y5 (by simp); have q4 := hW'.cell y2 (by simp); have q5 := hW'.cell y3 (by simp); go_simp; try with_reducible rfl)); case ht6 => (simp only [List.setIfInBounds_toArray, List.set_cons_zero, List.set_cons_succ]; with_reducible rfl)) | (refine held_skip' 5 111 (listed' := #[true, true, true, true, true, true, false, false, false, false, false]) (t' := ?t6) rfl rfl (by kernel_rfl) (by rfl) (fun _ _ _ h => h) hS0 rfl ?ht6 ?rest6; case ht6 => (simp only [List.setIfInBounds_toArray, List.set_cons_zero, List.set_cons_succ]; with_reducible rfl))
                  first | (refine held_take' 6 112 (listed' := #[true, true, true, true, true, true, true, false, false, false, false]) (v := ?v7) (t' := ?t7) rfl rfl (by kernel_rfl) (by rfl) ?hv7 (fun _ _ _ h => h) hS0 rfl ?ht7 ?rest7; (case hv7 => (intro W' hW'; have q0 := hW'.cell n0a (by simp); have q1 := hW'.cell d0' (by simp); have q2 := hW'.cell y0 (by simp); have q3 := hW'.cell y5 (by simp); have q4 := hW'.cell y2 (by simp); have q5 := hW'.cell y3 (by simp); go_simp; try with_reducible rfl)); case ht7 => (simp only [List.setIfInBounds_toArray, List.set_cons_zero, List.set_cons_succ]; with_reducible rfl)) | (refine held_skip' 6 112 (listed' := #[true, true, true, true, true, true, true, false, false, false, false]) (t' := ?t7) rfl rfl (by kernel_rfl) (by rfl) (fun _ _ _ h => h) hS0 rfl ?ht7 ?rest7; case ht7 => (simp only [List.setIfInBounds_toArray, List.set_cons_zero, List.set_cons_succ]; with_reducible rfl))
                  first | (refine held_take' 7 113 (listed' := #[true, true, true, true, true, true, true, true, false, false, false]) (v := ?v8) (t' := ?t8) rfl rfl (by kernel_rfl) (by rfl) ?hv8 (fun _ _ _ h => h) hS0 rfl ?ht8 ?rest8; (case hv8 => (intro W' hW'; have q0 := hW'.cell n0a (by simp); have q1 := hW'.cell d0' (by simp); have q2 := hW'.cell y0 (by simp); have q3 := hW'.cell y5 (by simp); have q4 := hW'.cell y2 (by simp); have q5 := hW'.cell y3 (by simp); go_simp; try with_reducible rfl)); case ht8 => (simp only [List.setIfInBounds_toArray, List.set_cons_zero, List.set_cons_succ]; with_reducible rfl)) | (refine held_skip' 7 113 (listed' := #[true, true, true, true, true, true, true, true, false, false, false]) (t' := ?t8) rfl rfl (by kernel_rfl) (by rfl) (fun _ _ _ h => h) hS0 rfl ?ht8 ?rest8; case ht8 => (simp only [List.setIfInBounds_toArray, List.set_cons_zero, List.set_cons_succ]; with_reducible rfl))
                  refine held_one 8 rfl (by kernel_rfl) (by rfl) (fun K hK => ?_)
                  go_simp
                  have hS1 := hS0.trans (Chg.alloc [] W12.drew (.cells #[.string ⟨x0.name.toArray⟩, .int .i64 x0.unit, .string ⟨x0.serial.toArray⟩, .int .i64 x0.file] 45))
                  refine hK.out _ _ hS1 ?_
                  clear hK K
                  show wpAnyH _ _ _ _ _ _ #[true, true, true, true, true, true, true, true, true, false, false] _ _
                  refine held_one 9 rfl (by kernel_rfl) (by rfl) (fun K hK => ?_)
                  refine appendNKw _ _ 22 rfl W12.heap.size 45 4 48 (by decide) _ Tryz.underlying22 info_ent rfl (by decide) 1 [_, _, _, _] rfl _ rfl (World.ownsRow_nil W12.drew _ _ _) rfl rfl (by simp [Value.oneCell']) (by omega) (Nat.le_refl _) ?_
                  intro v' W14 hr14 hc14
                  have hS2 : Chg [] W12 W14 := hS0.trans hc14
                  refine hK.out _ _ hS2 ?_
                  clear hK K hc14
                  show wpAnyH _ _ _ _ _ _ #[true, true, true, true, true, true, true, true, true, true, false] _ _
                  first | (refine held_take' 10 12 (listed' := #[true, true, true, true, true, true, true, true, true, true, true]) (v := ?v9) (t' := ?t9) rfl rfl (by kernel_rfl) (by rfl) ?hv9 (fun _ _ _ h => h) hS2 rfl ?ht9 ?rest9; (case hv9 => (intro W' hW'; have q0 := hW'.cell n0a (by simp); have q1 := hW'.cell d0' (by simp); have q2 := hW'.cell y0 (by simp); have q3 := hW'.cell y5 (by simp); have q4 := hW'.cell y2 (by simp); have q5 := hW'.cell y3 (by simp); go_simp; try with_reducible rfl)); case ht9 => (simp only [List.setIfInBounds_toArray, List.set_cons_zero, List.set_cons_succ]; with_reducible rfl)) | (refine held_skip' 10 12 (listed' := #[true, true, true, true, true, true, true, true, true, true, true]) (t' := ?t9) rfl rfl (by kernel_rfl) (by rfl) (fun _ _ _ h => h) hS2 rfl ?ht9 ?rest9; case ht9 => (simp only [List.setIfInBounds_toArray, List.set_cons_zero, List.set_cons_succ]; with_reducible rfl))
                  refine wpAnyH_done (by kernel_rfl) ?_ _
                  rw [Nat.zero_add, List.nil_append] at hr14
                  clear n0a n1a b0g b1g y0 y5 y2 y3 d0' zc
                  have HC14 := HC12.trans hS2
                  have hcc14 := hS2
                  obtain ⟨ra, rc, rfl⟩ := (RdK.of_own hr14).shape
                  have HN14 := hid (hcc14.heap HN12.out (by simp))
                  obtain ⟨n0c, n1c⟩ := two_cells HN14.out
                  have d0c := (hc12.trans hcc14).cell (QC.out 0 _ HIXC0.out) (by simp)
                  rw [HJ0.out, Nat.add_zero] at d0c
                  have hwj : IntKind.i64.wrap ((j0 : Int) + 1) = (j0 : Int) + 1 := by rw [IntKind.wrap_i64]; omega
                  have HR14 := hid hr14
                  clear hr14 hS0 hS1 hS2
                  go_wp2_with (fail)
                  refine wp_region_still_tail 9 (by kernel_rfl) (by kernel_rfl) ?_
                  show wpStill _ _ W14.drew (fun a => wpList _ _ _ _ a W14.drew) _ _
                  simp only [List.take_succ_cons, List.take_zero, List.drop_succ_cons, List.drop_zero]
                  repeat still_step
                  refine wpStill_nil ?_
                  obtain ⟨W15, hW15⟩ : ∃ W15, W14.drew = W15 := ⟨_, rfl⟩
                  rw [hW15]
                  have hc15 : Chg [] W14 W15 := by rw [← hW15]; exact Chg.drew [] W14
                  clear hW15 n0c n1c d0c hwj
                  have HC15 := HC14.trans hc15
                  have HO15 := hid (ownK_keep1 HO12.out (hcc14.trans hc15))
                  have HOG15 := hid (ownK_keep1 HOG12.out (hcc14.trans hc15))
                  have HR15 := hid (ownK_keep1 HR14.out hc15)
                  have HN15 := hid (hc15.heap HN14.out (by simp))
                  have HS15 := hid ((hcc14.trans hc15).heap HS12.out (by simp))
                  have hde := delE_any W15 w.heap.size _ (c.es.length + 1) j0 (j0 + 1) (cE es') HO15.out hjl0 rfl (by omega) (cE_one es')
                  rw [show ((j0 + 1 : Nat) : Int) = (j0 : Int) + 1 from by omega, cE_erase, Nat.add_sub_cancel] at hde
                  have HDE := hid hde
                  clear hde
                  go_wp2_with (fail)
                  try go_at_call 60
                  refine HDE.out.mono ?_
                  rintro e' W16 ⟨u16, rfl, ho16, hc16⟩
                  obtain ⟨ya, yc, rfl⟩ := (RdK.of_own ho16).shape
                  have hn16 := hc16.heap HN15.out (fun hh => own_ne HO15.out HN15.out (by decide) _ hh (by simp))
                  have hs16 := hc16.heap HS15.out (fun hh => own_ne HO15.out HS15.out (by decide) _ hh (by simp))
                  have hog16 := ownK_keep HOG15.out hc16 (fun j hj hj' => ownK_apart HO15.out HOG15.out (by decide) j hj' hj)
                  have hlt12 := ownK_lt HO12.out
                  have hr16 := ownK_base (ownK_keep HR15.out hc16 (fun j hj hj' => by have h1 := ownK_ge HR15.out j hj; have h2 := hlt12 j hj'; omega)) HC12.size
                  obtain ⟨n0d, n1d⟩ := two_cells hn16
                  have nf0 := frozen_of_row _ _ 0 _ _ hn16
                  obtain ⟨r0, r1⟩ := two_cells hs16
                  have f0 := frozen_of_row _ _ 0 _ _ hs16
                  have f1 := frozen_of_row _ _ 1 _ _ hs16
                  have HN16 := hid hn16
                  have HS16 := hid hs16
                  have HOG16 := hid hog16
                  have HR16 := hid hr16
                  have HO16 := hid ho16
                  have h256i : ¬ ((256 : Int) < (c.es.length : Int)) := by omega
                  have hel : (es'.eraseIdx j0).length = c.es.length := by rw [List.length_eraseIdx, HIL.out, if_pos hjl0]; omega
                  obtain rfl : (⟨es'.eraseIdx j0, c.gs⟩, [x0], 0) = R := by
                    rw [← HR.out]; unfold addP; rw [HVC.out, HGK.out, if_neg (by simp), HEN.out, if_neg (by intro h; rcases h with h | h; exact HME.out h; exact HMG.out h), HES.out]
                    rw [← HEN.out, if_pos HGG.out, if_neg HSAME.out, if_pos (by rw [HGCNT.out, HGETG.out]; exact hlim), ← HBD.out, HIX.out, HJ0.out, if_neg (by rw [hel]; omega), HX0.out]
                  have HC16 : Chg [] w W16 := HC15.then hc16 (fun j hj hlt => by have := ownK_ge HO15.out j hj; omega)
                  have HEL' := hid hel
                  clear hn16 hs16 hog16 hr16 ho16 hlt12 hel hc16
                  go_wp2_with ((with_reducible refine bodyPost_ret (v := .tuple #[.agg #[.slice ya c.es.length yc, .slice va c.gs.length vc], .slice ra 1 rc, .int .i64 0]) ?_ ?_ ?_); all_goals (obtain ⟨hO, q0, q1, hC⟩ := (cat_end (k := 0) (x := .slice ya c.es.length yc) (c := ⟨es'.eraseIdx j0, c.gs⟩) HN16.out HS16.out hnb2 (by rw [show (⟨es'.eraseIdx j0, c.gs⟩ : Cat).es.length = c.es.length from HEL'.out]; exact HO16.out) HOG16.out).out; first | exact ⟨_, _, _, rfl, hO, (ownK_keep (by rw [show cE [x0] = _ from cE_single x0]; exact HR16.out) hC (fun j hj hj' => by rcases List.mem_cons.1 hj' with h | h; exact own_ne HR16.out HN16.out (by decide) j hj (by rw [h]; simp); exact own_ne HR16.out HS16.out (by decide) j hj h)), HC16.then hC (fun j hj hlt => by rcases List.mem_cons.1 hj with h | h; have := HNB.out; omega; rw [List.mem_singleton] at h; have := HRB.out; omega)⟩ | (simp [results, Tryz.f23, go_sem, q0, q1]; done)))
                · by_cases h256 : 256 < c.es.length + 1
                  · have h256i : (256 : Int) < (c.es.length + 1 : Int) := by omega
                    obtain rfl : (⟨[], []⟩, [], 7) = R := by rw [← HR.out]; unfold addP; rw [HVC.out, HGK.out, if_neg (by simp), HEN.out, if_neg (by intro h; rcases h with h | h; exact HME.out h; exact HMG.out h), HES.out]; rw [← HEN.out, if_pos HGG.out, if_neg HSAME.out, if_neg (by rw [HGCNT.out, HGETG.out]; exact hlim), if_pos (by rw [HIL.out]; exact h256)]
                    obtain ⟨r0, r1, f0, f1, -, -⟩ := store2 (.slice none 0 0) (.slice none 0 0) HS12.out
                    go_wp2_with ((with_reducible refine bodyPost_ret (v := .tuple #[.agg #[.slice none 0 0, .slice none 0 0], .slice none 0 0, .int .i64 7]) ?_ ?_ ?_); all_goals (obtain ⟨-, -, -, -, HR2, HC2⟩ := store2 (.slice none 0 0) (.slice none 0 0) HS12.out; obtain ⟨q0, q1⟩ := two_cells HR2.out; first | exact ⟨_, _, _, rfl, OwC.nil _ _, World.ownsRow_nil _ _ _ _, HC12.then HC2.out (by intro i hi hlt; rw [List.mem_singleton] at hi; have := HRB.out; omega)⟩ | (simp [results, Tryz.f23, go_sem, q0, q1]; done)))
                  · have h256i : ¬ ((256 : Int) < (c.es.length + 1 : Int)) := by omega
                    obtain rfl : (⟨es', c.gs⟩, [], 0) = R := by rw [← HR.out]; unfold addP; rw [HVC.out, HGK.out, if_neg (by simp), HEN.out, if_neg (by intro h; rcases h with h | h; exact HME.out h; exact HMG.out h), HES.out]; rw [← HEN.out, if_pos HGG.out, if_neg HSAME.out, if_neg (by rw [HGCNT.out, HGETG.out]; exact hlim), if_neg (by rw [HIL.out]; exact h256)]
                    obtain ⟨r0, r1, f0, f1, -, -⟩ := store2 (.slice (some ⟨xb, xo, none⟩) (c.es.length + 1) xc) (.slice va c.gs.length vc) HS12.out
                    go_wp2_with ((with_reducible refine bodyPost_ret (v := .tuple #[.agg #[(.slice (some ⟨xb, xo, none⟩) (c.es.length + 1) xc), .slice va c.gs.length vc], (.slice none 0 0), .int .i64 0]) ?_ ?_ ?_); all_goals (obtain ⟨hO, hM, q0, q1, hC⟩ := (cat_end2 (c := ⟨es', c.gs⟩) (rm := []) HS12.out (by rw [show (⟨es', c.gs⟩ : Cat).es.length = c.es.length + 1 from HIL.out]; exact HO12.out) HOG12.out (World.ownsRow_nil _ _ _ _)).out; first | exact ⟨_, _, _, rfl, hO, hM, HC12.then hC (by intro i hi hlt; rw [List.mem_singleton] at hi; have := HRB.out; omega)⟩ | (simp [results, Tryz.f23, go_sem, q0, q1]; done)))
              · have hcmp : (!N1.toList == A.toList) = true := by rw [str_eq, decide_eq_false hnm]; rfl
                have hdiff : ((gensS es' (baseOf e.name)).getLastD default).name ≠ e.name := by
                  rw [← HLAST.out, HEN.out]; intro h; exact hnm (by rw [← HN1.out]; exact h)
                obtain rfl : (⟨[], []⟩, [], 6) = R := by
                  rw [← HR.out]; unfold addP; rw [HVC.out, HGK.out, if_neg (by simp), HEN.out, if_neg (by intro h; rcases h with h | h; exact HME.out h; exact HMG.out h), HES.out]
                  rw [← HEN.out, if_pos HGG.out, if_pos hdiff]
                clear hdiff hgi hnm
                rw [hcmp]
                clear hcmp
                obtain ⟨r0, r1, f0, f1, -, -⟩ := store2 (.slice none 0 0) (.slice none 0 0) HS12.out
                go_wp2_with ((with_reducible refine bodyPost_ret (v := .tuple #[.agg #[.slice none 0 0, .slice none 0 0], .slice none 0 0, .int .i64 6]) ?_ ?_ ?_); all_goals (obtain ⟨-, -, -, -, HR2, HC2⟩ := store2 (.slice none 0 0) (.slice none 0 0) HS12.out; obtain ⟨q0, q1⟩ := two_cells HR2.out; first | exact ⟨_, _, _, rfl, OwC.nil _ _, World.ownsRow_nil _ _ _ _, HC12.then HC2.out (by intro i hi hlt; rw [List.mem_singleton] at hi; have := HRB.out; omega)⟩ | (simp [results, Tryz.f23, go_sem, q0, q1]; done)))
            · have h0i : ¬ ((0 : Int) < (nn : Int)) := by omega
              by_cases h256 : 256 < c.es.length + 1
              · have h256i : (256 : Int) < (c.es.length + 1 : Int) := by omega
                obtain rfl : (⟨[], []⟩, [], 7) = R := by rw [← HR.out]; unfold addP; rw [HVC.out, HGK.out, if_neg (by simp), HEN.out, if_neg (by intro h; rcases h with h | h; exact HME.out h; exact HMG.out h), HES.out]; rw [if_neg (by rw [← HEN.out, ← HBD.out, HEN.out, hnn]; exact fun h => h0 h.2), if_pos (by rw [HIL.out]; exact h256)]
                obtain ⟨r0, r1, f0, f1, -, -⟩ := store2 (.slice none 0 0) (.slice none 0 0) HS10.out
                go_wp2_with (first | (go_at_call 59; refine HNUM.out.mono ?_; rintro e' _ ⟨rfl, rfl⟩) | ((with_reducible refine bodyPost_ret (v := .tuple #[.agg #[.slice none 0 0, .slice none 0 0], .slice none 0 0, .int .i64 7]) ?_ ?_ ?_); all_goals (obtain ⟨-, -, -, -, HR2, HC2⟩ := store2 (.slice none 0 0) (.slice none 0 0) HS10.out; obtain ⟨q0, q1⟩ := two_cells HR2.out; first | exact ⟨_, _, _, rfl, OwC.nil _ _, World.ownsRow_nil _ _ _ _, HC10.then HC2.out (by intro i hi hlt; rw [List.mem_singleton] at hi; have := HRB.out; omega)⟩ | (simp [results, Tryz.f23, go_sem, q0, q1]; done))))
              · have h256i : ¬ ((256 : Int) < (c.es.length + 1 : Int)) := by omega
                obtain rfl : (⟨es', c.gs⟩, [], 0) = R := by rw [← HR.out]; unfold addP; rw [HVC.out, HGK.out, if_neg (by simp), HEN.out, if_neg (by intro h; rcases h with h | h; exact HME.out h; exact HMG.out h), HES.out]; rw [if_neg (by rw [← HEN.out, ← HBD.out, HEN.out, hnn]; exact fun h => h0 h.2), if_neg (by rw [HIL.out]; exact h256)]
                obtain ⟨r0, r1, f0, f1, -, -⟩ := store2 (.slice xa (c.es.length + 1) xc) (.slice va c.gs.length vc) HS10.out
                go_wp2_with (first | (go_at_call 59; refine HNUM.out.mono ?_; rintro e' _ ⟨rfl, rfl⟩) | ((with_reducible refine bodyPost_ret (v := .tuple #[.agg #[(.slice xa (c.es.length + 1) xc), .slice va c.gs.length vc], (.slice none 0 0), .int .i64 0]) ?_ ?_ ?_); all_goals (obtain ⟨hO, hM, q0, q1, hC⟩ := (cat_end2 (c := ⟨es', c.gs⟩) (rm := []) HS10.out (by rw [show (⟨es', c.gs⟩ : Cat).es.length = c.es.length + 1 from HIL.out]; exact HO10.out) HOG10.out (World.ownsRow_nil _ _ _ _)).out; first | exact ⟨_, _, _, rfl, hO, hM, HC10.then hC (by intro i hi hlt; rw [List.mem_singleton] at hi; have := HRB.out; omega)⟩ | (simp [results, Tryz.f23, go_sem, q0, q1]; done))))
          · rw [decide_eq_false hbg]
            by_cases h256 : 256 < c.es.length + 1
            · have h256i : (256 : Int) < (c.es.length + 1 : Int) := by omega
              obtain rfl : (⟨[], []⟩, [], 7) = R := by rw [← HR.out]; unfold addP; rw [HVC.out, HGK.out, if_neg (by simp), HEN.out, if_neg (by intro h; rcases h with h | h; exact HME.out h; exact HMG.out h), HES.out]; rw [if_neg (by rw [← HEN.out, ← HBD.out]; exact fun h => hbg h.1), if_pos (by rw [HIL.out]; exact h256)]
              obtain ⟨r0, r1, f0, f1, -, -⟩ := store2 (.slice none 0 0) (.slice none 0 0) HS10.out
              go_wp2_with ((with_reducible refine bodyPost_ret (v := .tuple #[.agg #[.slice none 0 0, .slice none 0 0], .slice none 0 0, .int .i64 7]) ?_ ?_ ?_); all_goals (obtain ⟨-, -, -, -, HR2, HC2⟩ := store2 (.slice none 0 0) (.slice none 0 0) HS10.out; obtain ⟨q0, q1⟩ := two_cells HR2.out; first | exact ⟨_, _, _, rfl, OwC.nil _ _, World.ownsRow_nil _ _ _ _, HC10.then HC2.out (by intro i hi hlt; rw [List.mem_singleton] at hi; have := HRB.out; omega)⟩ | (simp [results, Tryz.f23, go_sem, q0, q1]; done)))
            · have h256i : ¬ ((256 : Int) < (c.es.length + 1 : Int)) := by omega
              obtain rfl : (⟨es', c.gs⟩, [], 0) = R := by rw [← HR.out]; unfold addP; rw [HVC.out, HGK.out, if_neg (by simp), HEN.out, if_neg (by intro h; rcases h with h | h; exact HME.out h; exact HMG.out h), HES.out]; rw [if_neg (by rw [← HEN.out, ← HBD.out]; exact fun h => hbg h.1), if_neg (by rw [HIL.out]; exact h256)]
              obtain ⟨r0, r1, f0, f1, -, -⟩ := store2 (.slice xa (c.es.length + 1) xc) (.slice va c.gs.length vc) HS10.out
              go_wp2_with ((with_reducible refine bodyPost_ret (v := .tuple #[.agg #[(.slice xa (c.es.length + 1) xc), .slice va c.gs.length vc], (.slice none 0 0), .int .i64 0]) ?_ ?_ ?_); all_goals (obtain ⟨hO, hM, q0, q1, hC⟩ := (cat_end2 (c := ⟨es', c.gs⟩) (rm := []) HS10.out (by rw [show (⟨es', c.gs⟩ : Cat).es.length = c.es.length + 1 from HIL.out]; exact HO10.out) HOG10.out (World.ownsRow_nil _ _ _ _)).out; first | exact ⟨_, _, _, rfl, hO, hM, HC10.then hC (by intro i hi hlt; rw [List.mem_singleton] at hi; have := HRB.out; omega)⟩ | (simp [results, Tryz.f23, go_sem, q0, q1]; done)))
end Go.Proofs.YtldkmclfhjcicaaGreatDoor

import Derived.Outline
import Derived.Test.YtldkmclfhjcicaaGreatDoorBr0
import Derived.Test.YtldkmclfhjcicaaGreatDoorCSk
/- Check of layer 27. -/
-- SIMP: intsV
namespace Go.Proofs.YtldkmclfhjcicaaGreatDoor
open Go.RowKit
set_option linter.unusedVariables false
set_option linter.unusedSimpArgs false
theorem four_cells {w : World} {g : Nat} {a b c d : Value} {t : TypeId} {fr : Nat × Nat} (h : w.heap[g]? = some (.cells #[a, b, c, d] t fr)) :
    w.cell? ⟨g, 0, none⟩ = some a ∧ w.cell? ⟨g, 1, none⟩ = some b ∧ w.cell? ⟨g, 2, none⟩ = some c ∧ w.cell? ⟨g, 3, none⟩ = some d := by
  refine ⟨?_, ?_, ?_, ?_⟩ <;> (rw [cell_of_row w g _ _ t fr h]; rfl)
theorem validE_spec {e : Ent} {b : Bool} (h : entOk e = b) : Spec Tryz.prog 38 [entV e] (.bool b) :=
  ⟨⟨_, Tryz.func38, rfl, by decide⟩, rfl, fun M w vs hM h' => by
    obtain ⟨u, rfl, hu⟩ := repL1 h'
    obtain rfl := rep_ent hu
    refine (validE_any ⟨e.name.toArray⟩ ⟨e.serial.toArray⟩ e.unit e.file w).mono ?_
    rintro e' w' ⟨rfl, hc⟩
    exact ⟨_, rfl, hc, by rw [← h]; rfl⟩⟩
theorem validG_spec {g : Grp} {b : Bool} (h : grpOk g = b) : Spec Tryz.prog 41 [.agg (grpC g)] (.bool b) :=
  ⟨⟨_, Tryz.func41, rfl, by decide⟩, rfl, fun M w vs hM h' => by
    obtain ⟨u, rfl, cs, rfl, _, _, _, rfl, h1, _, _, rfl, h2, h3⟩ := repL1 h'
    cases h3; cases h1; cases h2
    refine (validG_any ⟨g.base.toArray⟩ g.limit w).mono ?_
    rintro e' w' ⟨rfl, hc⟩
    exact ⟨_, rfl, hc, by rw [← h]; rfl⟩⟩
theorem seekE_spec {es : List Ent} (s : Bs) (hM1 : es.length ≤ 1000000) (ha : asc (namesS es) = true) {b : Bool} (hb : decide (s ∈ namesS es) = b) : Spec Tryz.prog 39 [entsV es, .str s, .fn (.func 40) []] (.tup [.int .i64 (lbS (namesS es) s : Nat), .bool b]) :=
  ⟨⟨_, Tryz.func39, rfl, by decide⟩, rfl, fun M w vs hM h => by
    obtain ⟨u, _, _, rfl, hu, rfl, _, rfl, rfl⟩ := repL3 h
    have := rep_rdk hu (xs := cE es) (fun cs h => ents_cells h); rw [List.length_map] at this
    refine (seekE_any w u es ⟨s.toArray⟩ this hM1 ha).mono ?_
    rintro e' w' ⟨rfl, hc⟩
    exact ⟨_, rfl, hc, tup2 rfl (by rw [← hb]; rfl)⟩⟩
theorem gens_spec {c : Cat} (s : Bs) (hs : s.length ≤ 1000000) (hM1 : c.es.length ≤ 1000000) : Spec Tryz.prog 42 [catV c, .str s] (.sl 1 ((idxG s c.es).map fun (n : Nat) => [V.int .i64 (n : Int)])) :=
  ⟨⟨_, Tryz.func42, rfl, by decide⟩, rfl, fun M w vs hM h => by
    obtain ⟨u, v, rfl, hu, rfl⟩ := repL2 h
    obtain ⟨ve, vg, rfl, hc⟩ := rep_cat hu
    refine (generations_any w ve vg c.es ⟨s.toArray⟩ (by rw [vb_size]; exact hs) hM1 hc.1 (by obtain ⟨a, cap, h, _⟩ := hc.2; exact ⟨_, _, _, h⟩)).mono ?_
    rintro e' w' ⟨u, rfl, ho, hc⟩
    exact ⟨_, rfl, hc, own_rep ho hM (by simp) (fun r hr => by obtain ⟨n, _, rfl⟩ := List.mem_map.1 hr; rfl) (fun r hr => by obtain ⟨n, _, rfl⟩ := List.mem_map.1 hr; rfl) (fun q hq => by obtain ⟨n, _, rfl⟩ := List.mem_map.1 hq; rfl) (ints_repL _ _)⟩⟩
theorem map_getD {α : Type} [Inhabited α] (f : α → List V) (l : List α) (k : Nat) (h : k < l.length) : (l.map f).getD k [] = f (l.getD k default) := by
  rw [List.getD_eq_getElem?_getD, List.getElem?_map, List.getD_eq_getElem?_getD, List.getElem?_eq_getElem h]; rfl
theorem not_lt_of_le {a b : Bs} (h : (Op.bytesLess a b || decide (a = b)) = true) : ¬ b < a := by
  rw [bytesLess_eq] at h
  rcases Bool.or_eq_true_iff.1 h with h | h
  · exact lt_asymm' (of_decide_eq_true h)
  · rw [of_decide_eq_true h]; exact fun h => lt_ne h rfl
theorem lt_of_not_le {a b : Bs} (h : (Op.bytesLess a b || decide (a = b)) = false) : b < a := by
  rw [bytesLess_eq] at h
  have h := Bool.or_eq_false_iff.1 h
  exact (lt_or (of_decide_eq_false h.1) (fun e => of_decide_eq_false h.2 e))
set_option maxHeartbeats 4000000 in
set_option maxRecDepth 4000 in
theorem Check_spec (c : Cat) : Spec Tryz.prog 16 [catV c] (.int .i64 (if validC c then 0 else 1)) := by
  refine spec_of tt_ok Tryz.func16 rfl (by decide) Tryz.ntmps16 (congrArg Array.toList Tryz.results16) (by simp) (by decide) rfl rfl (fun F hF => ?_)
  refine vwp_seq_k fun Na hNa => vreg tt_ok hF rfl ?_; simp only [go_sem, Int.reduceEq, Int.reduceNe, Int.reduceLT, Int.reduceLE, Nat.reduceEqDiff, Nat.reduceAdd, Nat.reduceMul, Nat.reduceLT, Nat.reduceLeDiff, Nat.reduceSub, reduceCtorEq, reduceIte, Int.reduceToNat, intsV]
  refine hNa _ (VWp.keep [1] [1] ?_); simp only [go_sem, Int.reduceEq, Int.reduceNe, Int.reduceLT, Int.reduceLE, Nat.reduceEqDiff, Nat.reduceAdd, Nat.reduceMul, Nat.reduceLT, Nat.reduceLeDiff, Nat.reduceSub, reduceCtorEq, reduceIte, Int.reduceToNat, intsV]
  refine vwp_seq_k fun Nb hNb => ?_
  by_cases h1 : 256 < c.es.length ∨ 32 < c.gs.length
  · rw [bad_len h1]
    refine vmeet (fun _ : Unit => [(1, .ptr 1 0), (18, .bool true)]) (fun _ => [(1, .box 25 [.sl 4 (c.es.map entC), .sl 2 (c.gs.map grpC)])]) (fun _ => True) ?_ ?_
    · by_cases h2 : 256 < c.es.length
      · have f1 : decide ((256 : Int) < (c.es.length : Int)) = true := decide_eq_true (by omega)
        refine vreg tt_ok hF rfl ?_; simp only [go_sem, Int.reduceEq, Int.reduceNe, Int.reduceLT, Int.reduceLE, Nat.reduceEqDiff, Nat.reduceAdd, Nat.reduceMul, Nat.reduceLT, Nat.reduceLeDiff, Nat.reduceSub, reduceCtorEq, reduceIte, Int.reduceToNat, intsV, f1]
        exact ⟨(), trivial⟩
      · have f1 : decide ((256 : Int) < (c.es.length : Int)) = false := decide_eq_false (by omega)
        have f2 : decide ((32 : Int) < (c.gs.length : Int)) = true := decide_eq_true (by omega)
        refine vreg tt_ok hF rfl ?_; simp only [go_sem, Int.reduceEq, Int.reduceNe, Int.reduceLT, Int.reduceLE, Nat.reduceEqDiff, Nat.reduceAdd, Nat.reduceMul, Nat.reduceLT, Nat.reduceLeDiff, Nat.reduceSub, reduceCtorEq, reduceIte, Int.reduceToNat, intsV, f1, f2]
        exact ⟨(), trivial⟩
    intro _ _
    refine vif rfl ⟨fun ht => ?_, fun hf => (by cases hf)⟩
    refine vwp_seq_k fun Nd hNd => vreg tt_ok hF rfl ?_; simp only [go_sem, Int.reduceEq, Int.reduceNe, Int.reduceLT, Int.reduceLE, Nat.reduceEqDiff, Nat.reduceAdd, Nat.reduceMul, Nat.reduceLT, Nat.reduceLeDiff, Nat.reduceSub, reduceCtorEq, reduceIte, Int.reduceToNat, intsV]
    refine hNd _ (VWp.keep [2] [] ?_); simp only [go_sem, Int.reduceEq, Int.reduceNe, Int.reduceLT, Int.reduceLE, Nat.reduceEqDiff, Nat.reduceAdd, Nat.reduceMul, Nat.reduceLT, Nat.reduceLeDiff, Nat.reduceSub, reduceCtorEq, reduceIte, Int.reduceToNat, intsV]
    refine vwp_ret ?_
    simp only [go_sem, Int.reduceEq, Int.reduceNe, Int.reduceLT, Int.reduceLE, Nat.reduceEqDiff, Nat.reduceAdd, Nat.reduceMul, Nat.reduceLT, Nat.reduceLeDiff, Nat.reduceSub, reduceCtorEq, reduceIte, Int.reduceToNat, intsV]
    exact LeV.refl _
  have f1 : decide ((256 : Int) < (c.es.length : Int)) = false := decide_eq_false (by omega)
  have f2 : decide ((32 : Int) < (c.gs.length : Int)) = false := decide_eq_false (by omega)
  refine vwp_seq_k fun Nc hNc => vreg tt_ok hF rfl ?_; simp only [go_sem, Int.reduceEq, Int.reduceNe, Int.reduceLT, Int.reduceLE, Nat.reduceEqDiff, Nat.reduceAdd, Nat.reduceMul, Nat.reduceLT, Nat.reduceLeDiff, Nat.reduceSub, reduceCtorEq, reduceIte, Int.reduceToNat, intsV]
  simp only [f1, f2, go_sem, Int.reduceEq, Int.reduceNe, Int.reduceLT, Int.reduceLE, Nat.reduceEqDiff, Nat.reduceAdd, Nat.reduceMul, Nat.reduceLT, Nat.reduceLeDiff, Nat.reduceSub, reduceCtorEq, reduceIte, Int.reduceToNat, intsV]
  refine hNc _ (VWp.keep [1,18] [1] ?_); simp only [go_sem, Int.reduceEq, Int.reduceNe, Int.reduceLT, Int.reduceLE, Nat.reduceEqDiff, Nat.reduceAdd, Nat.reduceMul, Nat.reduceLT, Nat.reduceLeDiff, Nat.reduceSub, reduceCtorEq, reduceIte, Int.reduceToNat, intsV]
  refine vif rfl ⟨fun ht => (by cases ht), fun hf => ?_⟩
  clear f1 f2 hf
  refine vwp_skip (hNb _ ?_)
  refine vwp_seq_k fun Ne hNe => ?_
  refine vwp_seq_k fun Nf hNf => vreg tt_ok hF rfl ?_; simp only [go_sem, Int.reduceEq, Int.reduceNe, Int.reduceLT, Int.reduceLE, Nat.reduceEqDiff, Nat.reduceAdd, Nat.reduceMul, Nat.reduceLT, Nat.reduceLeDiff, Nat.reduceSub, reduceCtorEq, reduceIte, Int.reduceToNat, intsV]
  refine hNf _ (VWp.keep [1,20,21,22] [1] ?_); simp only [go_sem, Int.reduceEq, Int.reduceNe, Int.reduceLT, Int.reduceLE, Nat.reduceEqDiff, Nat.reduceAdd, Nat.reduceMul, Nat.reduceLT, Nat.reduceLeDiff, Nat.reduceSub, reduceCtorEq, reduceIte, Int.reduceToNat, intsV]
  refine vwp_block ?_
  refine vloop (fun k : Nat => [(1, .ptr 1 0), (20, .sl 4 (c.es.map entC)), (21, .int .i64 (c.es.length : Int)), (22, .int .i64 (k : Int))]) (fun k => [(1, .box 25 [.sl 4 (c.es.map entC), .sl 2 (c.gs.map grpC)])])
    (fun k => k ≤ c.es.length ∧ ckE c.es k) (fun k => c.es.length - k) 0 ⟨by omega, ckE_zero _⟩ (by simp only [go_sem, Int.reduceEq, Int.reduceNe, Int.reduceLT, Int.reduceLE, Nat.reduceEqDiff, Nat.reduceAdd, Nat.reduceMul, Nat.reduceLT, Nat.reduceLeDiff, Nat.reduceSub, reduceCtorEq, reduceIte, Int.reduceToNat, intsV]) ?_
  rintro k ⟨hk, hck⟩
  refine vwp_seq_k fun Ng hNg => vreg tt_ok hF rfl ?_; simp only [go_sem, Int.reduceEq, Int.reduceNe, Int.reduceLT, Int.reduceLE, Nat.reduceEqDiff, Nat.reduceAdd, Nat.reduceMul, Nat.reduceLT, Nat.reduceLeDiff, Nat.reduceSub, reduceCtorEq, reduceIte, Int.reduceToNat, intsV]
  refine hNg _ (VWp.keep [1,20,21,22,23] [1] ?_); simp only [go_sem, Int.reduceEq, Int.reduceNe, Int.reduceLT, Int.reduceLE, Nat.reduceEqDiff, Nat.reduceAdd, Nat.reduceMul, Nat.reduceLT, Nat.reduceLeDiff, Nat.reduceSub, reduceCtorEq, reduceIte, Int.reduceToNat, intsV]
  refine vwp_seq_k fun Nh hNh => ?_
  refine vif rfl ⟨fun ht => ?_, fun hf => ?_⟩
  · have hlt : k < c.es.length := by simpa using ht
    refine vwp_skip (hNh _ ?_)
    refine vwp_seq_k fun Ni hNi => ?_
    refine vwp_block ?_
    obtain ⟨x, hx⟩ : ∃ x, c.es.getD k default = x := ⟨_, rfl⟩
    have hrow : (c.es.map entC).getD k [] = [.str x.name, .int .i64 x.unit, .str x.serial, .int .i64 x.file] := by rw [map_getD _ _ _ hlt, hx]; rfl
    refine vwp_seq_k fun Nj hNj => vreg tt_ok hF rfl ?_; simp only [go_sem, Int.reduceEq, Int.reduceNe, Int.reduceLT, Int.reduceLE, Nat.reduceEqDiff, Nat.reduceAdd, Nat.reduceMul, Nat.reduceLT, Nat.reduceLeDiff, Nat.reduceSub, reduceCtorEq, reduceIte, Int.reduceToNat, intsV]
    simp only [hrow, go_sem, Int.reduceEq, Int.reduceNe, Int.reduceLT, Int.reduceLE, Nat.reduceEqDiff, Nat.reduceAdd, Nat.reduceMul, Nat.reduceLT, Nat.reduceLeDiff, Nat.reduceSub, reduceCtorEq, reduceIte, Int.reduceToNat, intsV]
    refine ⟨⟨by omega, by omega⟩, ?_⟩
    refine hNj _ (VWp.keep [1,3,4,20,21,22] [1,4] ?_); simp only [go_sem, Int.reduceEq, Int.reduceNe, Int.reduceLT, Int.reduceLE, Nat.reduceEqDiff, Nat.reduceAdd, Nat.reduceMul, Nat.reduceLT, Nat.reduceLeDiff, Nat.reduceSub, reduceCtorEq, reduceIte, Int.reduceToNat, intsV]
    cases ho : entOk x with
    | false =>
      refine vwp_seq_k fun Nk hNk => vregd tt_ok mixed hF rfl (by kernel_rfl) (by kernel_rfl) ?_; simp only [go_sem, Int.reduceEq, Int.reduceNe, Int.reduceLT, Int.reduceLE, Nat.reduceEqDiff, Nat.reduceAdd, Nat.reduceMul, Nat.reduceLT, Nat.reduceLeDiff, Nat.reduceSub, reduceCtorEq, reduceIte, Int.reduceToNat, intsV]
      refine .inl ⟨_, validE_spec ho, ?_⟩; try simp only [go_sem, Int.reduceEq, Int.reduceNe, Int.reduceLT, Int.reduceLE, Nat.reduceEqDiff, Nat.reduceAdd, Nat.reduceMul, Nat.reduceLT, Nat.reduceLeDiff, Nat.reduceSub, reduceCtorEq, reduceIte, Int.reduceToNat, intsV]
      refine hNk _ (VWp.keep [1,20,21,22,45] [1] ?_); simp only [go_sem, Int.reduceEq, Int.reduceNe, Int.reduceLT, Int.reduceLE, Nat.reduceEqDiff, Nat.reduceAdd, Nat.reduceMul, Nat.reduceLT, Nat.reduceLeDiff, Nat.reduceSub, reduceCtorEq, reduceIte, Int.reduceToNat, intsV]
      refine vif rfl ⟨fun ht => ?_, fun hf => (by cases hf)⟩
      rw [bad_ent hlt (by rw [hx]; exact ho)]
      refine vwp_seq_k fun Nl hNl => vreg tt_ok hF rfl ?_; simp only [go_sem, Int.reduceEq, Int.reduceNe, Int.reduceLT, Int.reduceLE, Nat.reduceEqDiff, Nat.reduceAdd, Nat.reduceMul, Nat.reduceLT, Nat.reduceLeDiff, Nat.reduceSub, reduceCtorEq, reduceIte, Int.reduceToNat, intsV]
      refine hNl _ (VWp.keep [2] [] ?_); simp only [go_sem, Int.reduceEq, Int.reduceNe, Int.reduceLT, Int.reduceLE, Nat.reduceEqDiff, Nat.reduceAdd, Nat.reduceMul, Nat.reduceLT, Nat.reduceLeDiff, Nat.reduceSub, reduceCtorEq, reduceIte, Int.reduceToNat, intsV]
      refine vwp_ret ?_
      simp only [go_sem, Int.reduceEq, Int.reduceNe, Int.reduceLT, Int.reduceLE, Nat.reduceEqDiff, Nat.reduceAdd, Nat.reduceMul, Nat.reduceLT, Nat.reduceLeDiff, Nat.reduceSub, reduceCtorEq, reduceIte, Int.reduceToNat, intsV]
      exact LeV.refl _
    | true =>
      have hok := ho
      rw [← hx] at hok
      rcases k with _ | j
      · refine vwp_seq_k fun Nk hNk => vregd tt_ok mixed hF rfl (by kernel_rfl) (by kernel_rfl) ?_; simp only [go_sem, Int.reduceEq, Int.reduceNe, Int.reduceLT, Int.reduceLE, Nat.reduceEqDiff, Nat.reduceAdd, Nat.reduceMul, Nat.reduceLT, Nat.reduceLeDiff, Nat.reduceSub, reduceCtorEq, reduceIte, Int.reduceToNat, intsV]
        refine .inl ⟨_, validE_spec ho, ?_⟩; try simp only [go_sem, Int.reduceEq, Int.reduceNe, Int.reduceLT, Int.reduceLE, Nat.reduceEqDiff, Nat.reduceAdd, Nat.reduceMul, Nat.reduceLT, Nat.reduceLeDiff, Nat.reduceSub, reduceCtorEq, reduceIte, Int.reduceToNat, intsV]
        refine hNk _ (VWp.keep [1,20,21,22,45] [1] ?_); simp only [go_sem, Int.reduceEq, Int.reduceNe, Int.reduceLT, Int.reduceLE, Nat.reduceEqDiff, Nat.reduceAdd, Nat.reduceMul, Nat.reduceLT, Nat.reduceLeDiff, Nat.reduceSub, reduceCtorEq, reduceIte, Int.reduceToNat, intsV]
        refine vif rfl ⟨fun ht => (by cases ht), fun hf => ?_⟩
        refine vwp_skip (hNi _ ?_)
        refine vreg tt_ok hF rfl ?_; simp only [go_sem, Int.reduceEq, Int.reduceNe, Int.reduceLT, Int.reduceLE, Nat.reduceEqDiff, Nat.reduceAdd, Nat.reduceMul, Nat.reduceLT, Nat.reduceLeDiff, Nat.reduceSub, reduceCtorEq, reduceIte, Int.reduceToNat, intsV]
        rw [wrap_i64 (by omega) (by omega)]
        exact ⟨1, ⟨by omega, ckE_succ hlt hck hok (.inl rfl)⟩, by omega, by simp⟩
      · obtain ⟨y, hy⟩ : ∃ y, c.es.getD j default = y := ⟨_, rfl⟩
        have hrow2 : (c.es.map entC).getD j [] = [.str y.name, .int .i64 y.unit, .str y.serial, .int .i64 y.file] := by rw [map_getD _ _ _ (by omega), hy]; rfl
        have hw : IntKind.i64.wrap (((j + 1 : Nat) : Int) - 1) = (j : Int) := by rw [wrap_i64 (by omega) (by omega)]; omega
        have f0 : decide ((0 : Int) < ((j + 1 : Nat) : Int)) = true := decide_eq_true (by omega)
        refine vwp_seq_k fun Nk hNk => vregd tt_ok mixed hF rfl (by kernel_rfl) (by kernel_rfl) ?_; simp only [go_sem, Int.reduceEq, Int.reduceNe, Int.reduceLT, Int.reduceLE, Nat.reduceEqDiff, Nat.reduceAdd, Nat.reduceMul, Nat.reduceLT, Nat.reduceLeDiff, Nat.reduceSub, reduceCtorEq, reduceIte, Int.reduceToNat, intsV]
        refine .inl ⟨_, validE_spec ho, ?_⟩; try simp only [go_sem, Int.reduceEq, Int.reduceNe, Int.reduceLT, Int.reduceLE, Nat.reduceEqDiff, Nat.reduceAdd, Nat.reduceMul, Nat.reduceLT, Nat.reduceLeDiff, Nat.reduceSub, reduceCtorEq, reduceIte, Int.reduceToNat, intsV]
        simp only [f0, hw, hrow2, go_sem, Int.reduceEq, Int.reduceNe, Int.reduceLT, Int.reduceLE, Nat.reduceEqDiff, Nat.reduceAdd, Nat.reduceMul, Nat.reduceLT, Nat.reduceLeDiff, Nat.reduceSub, reduceCtorEq, reduceIte, Int.reduceToNat, intsV]
        refine ⟨⟨by omega, by omega⟩, ?_⟩
        refine hNk _ (VWp.keep [1,20,21,22,45] [1] ?_); simp only [go_sem, Int.reduceEq, Int.reduceNe, Int.reduceLT, Int.reduceLE, Nat.reduceEqDiff, Nat.reduceAdd, Nat.reduceMul, Nat.reduceLT, Nat.reduceLeDiff, Nat.reduceSub, reduceCtorEq, reduceIte, Int.reduceToNat, intsV]
        refine vif rfl ⟨fun ht => ?_, fun hf => ?_⟩
        · have hno : ¬ y.name < x.name := not_lt_of_le ht
          rw [bad_ord hlt (by omega) (by rw [hx, show j + 1 - 1 = j from rfl, hy]; exact hno)]
          refine vwp_seq_k fun Nl hNl => vreg tt_ok hF rfl ?_; simp only [go_sem, Int.reduceEq, Int.reduceNe, Int.reduceLT, Int.reduceLE, Nat.reduceEqDiff, Nat.reduceAdd, Nat.reduceMul, Nat.reduceLT, Nat.reduceLeDiff, Nat.reduceSub, reduceCtorEq, reduceIte, Int.reduceToNat, intsV]
          refine hNl _ (VWp.keep [2] [] ?_); simp only [go_sem, Int.reduceEq, Int.reduceNe, Int.reduceLT, Int.reduceLE, Nat.reduceEqDiff, Nat.reduceAdd, Nat.reduceMul, Nat.reduceLT, Nat.reduceLeDiff, Nat.reduceSub, reduceCtorEq, reduceIte, Int.reduceToNat, intsV]
          refine vwp_ret ?_
          simp only [go_sem, Int.reduceEq, Int.reduceNe, Int.reduceLT, Int.reduceLE, Nat.reduceEqDiff, Nat.reduceAdd, Nat.reduceMul, Nat.reduceLT, Nat.reduceLeDiff, Nat.reduceSub, reduceCtorEq, reduceIte, Int.reduceToNat, intsV]
          exact LeV.refl _
        · refine vwp_skip (hNi _ ?_)
          refine vreg tt_ok hF rfl ?_; simp only [go_sem, Int.reduceEq, Int.reduceNe, Int.reduceLT, Int.reduceLE, Nat.reduceEqDiff, Nat.reduceAdd, Nat.reduceMul, Nat.reduceLT, Nat.reduceLeDiff, Nat.reduceSub, reduceCtorEq, reduceIte, Int.reduceToNat, intsV]
          rw [wrap_i64 (by omega) (by omega)]
          refine ⟨j + 1 + 1, ⟨by omega, ckE_succ hlt hck hok (.inr ?_)⟩, by omega, by simp⟩
          rw [hx, show j + 1 - 1 = j from rfl, hy]
          exact lt_of_not_le hf
  · have hkl : k = c.es.length := by have := of_decide_eq_false hf; omega
    subst hkl
    obtain ⟨ckall, ckasc⟩ := ckE_all hck
    refine vwp_exit ?_
    simp only [go_sem, Int.reduceEq, Int.reduceNe, Int.reduceLT, Int.reduceLE, Nat.reduceEqDiff, Nat.reduceAdd, Nat.reduceMul, Nat.reduceLT, Nat.reduceLeDiff, Nat.reduceSub, reduceCtorEq, reduceIte, Int.reduceToNat, intsV]
    refine hNe _ (VWp.keep [1] [1] ?_); simp only [go_sem, Int.reduceEq, Int.reduceNe, Int.reduceLT, Int.reduceLE, Nat.reduceEqDiff, Nat.reduceAdd, Nat.reduceMul, Nat.reduceLT, Nat.reduceLeDiff, Nat.reduceSub, reduceCtorEq, reduceIte, Int.reduceToNat, intsV]
    refine vwp_seq_k fun Nm hNm => ?_
    refine vwp_seq_k fun Nn hNn => vreg tt_ok hF rfl ?_; simp only [go_sem, Int.reduceEq, Int.reduceNe, Int.reduceLT, Int.reduceLE, Nat.reduceEqDiff, Nat.reduceAdd, Nat.reduceMul, Nat.reduceLT, Nat.reduceLeDiff, Nat.reduceSub, reduceCtorEq, reduceIte, Int.reduceToNat, intsV]
    refine hNn _ (VWp.keep [1,48,49,50] [1] ?_); simp only [go_sem, Int.reduceEq, Int.reduceNe, Int.reduceLT, Int.reduceLE, Nat.reduceEqDiff, Nat.reduceAdd, Nat.reduceMul, Nat.reduceLT, Nat.reduceLeDiff, Nat.reduceSub, reduceCtorEq, reduceIte, Int.reduceToNat, intsV]
    refine vwp_block ?_
    refine vloop (fun k : Nat => [(1, .ptr 1 0), (48, .sl 2 (c.gs.map grpC)), (49, .int .i64 (c.gs.length : Int)), (50, .int .i64 (k : Int))]) (fun k => [(1, .box 25 [.sl 4 (c.es.map entC), .sl 2 (c.gs.map grpC)])])
      (fun k => k ≤ c.gs.length ∧ ckG c k) (fun k => c.gs.length - k) 0 ⟨by omega, ckG_zero _⟩ (by simp only [go_sem, Int.reduceEq, Int.reduceNe, Int.reduceLT, Int.reduceLE, Nat.reduceEqDiff, Nat.reduceAdd, Nat.reduceMul, Nat.reduceLT, Nat.reduceLeDiff, Nat.reduceSub, reduceCtorEq, reduceIte, Int.reduceToNat, intsV]) ?_
    clear hck hf hk
    rintro k ⟨hk, hck⟩
    refine vwp_seq_k fun No hNo => vreg tt_ok hF rfl ?_; simp only [go_sem, Int.reduceEq, Int.reduceNe, Int.reduceLT, Int.reduceLE, Nat.reduceEqDiff, Nat.reduceAdd, Nat.reduceMul, Nat.reduceLT, Nat.reduceLeDiff, Nat.reduceSub, reduceCtorEq, reduceIte, Int.reduceToNat, intsV]
    refine hNo _ (VWp.keep [1,48,49,50,51] [1] ?_); simp only [go_sem, Int.reduceEq, Int.reduceNe, Int.reduceLT, Int.reduceLE, Nat.reduceEqDiff, Nat.reduceAdd, Nat.reduceMul, Nat.reduceLT, Nat.reduceLeDiff, Nat.reduceSub, reduceCtorEq, reduceIte, Int.reduceToNat, intsV]
    refine vwp_seq_k fun Np hNp => ?_
    refine vif rfl ⟨fun ht => ?_, fun hf => ?_⟩
    · have hlt : k < c.gs.length := by simpa using ht
      refine vwp_skip (hNp _ ?_)
      refine vwp_seq_k fun Nq hNq => ?_
      refine vwp_block ?_
      obtain ⟨x, hx⟩ : ∃ x, c.gs.getD k default = x := ⟨_, rfl⟩
      have hrow : (c.gs.map grpC).getD k [] = [.str x.base, .int .i64 x.limit] := by rw [map_getD _ _ _ hlt, hx]; rfl
      refine vwp_seq_k fun Nr hNr => vreg tt_ok hF rfl ?_; simp only [go_sem, Int.reduceEq, Int.reduceNe, Int.reduceLT, Int.reduceLE, Nat.reduceEqDiff, Nat.reduceAdd, Nat.reduceMul, Nat.reduceLT, Nat.reduceLeDiff, Nat.reduceSub, reduceCtorEq, reduceIte, Int.reduceToNat, intsV]
      simp only [hrow, go_sem, Int.reduceEq, Int.reduceNe, Int.reduceLT, Int.reduceLE, Nat.reduceEqDiff, Nat.reduceAdd, Nat.reduceMul, Nat.reduceLT, Nat.reduceLeDiff, Nat.reduceSub, reduceCtorEq, reduceIte, Int.reduceToNat, intsV]
      refine ⟨⟨by omega, by omega⟩, ?_⟩
      refine hNr _ (VWp.keep [1,5,6,48,49,50] [1,6] ?_); simp only [go_sem, Int.reduceEq, Int.reduceNe, Int.reduceLT, Int.reduceLE, Nat.reduceEqDiff, Nat.reduceAdd, Nat.reduceMul, Nat.reduceLT, Nat.reduceLeDiff, Nat.reduceSub, reduceCtorEq, reduceIte, Int.reduceToNat, intsV]
      obtain ⟨nm, hnm⟩ : ∃ nm, decide (x.base ∈ namesS c.es) = nm := ⟨_, rfl⟩
      refine vwp_seq_k fun Ns hNs => vreg tt_ok hF rfl ?_; simp only [go_sem, Int.reduceEq, Int.reduceNe, Int.reduceLT, Int.reduceLE, Nat.reduceEqDiff, Nat.reduceAdd, Nat.reduceMul, Nat.reduceLT, Nat.reduceLeDiff, Nat.reduceSub, reduceCtorEq, reduceIte, Int.reduceToNat, intsV]
      refine .inl ⟨_, seekE_spec x.base (by omega) ckasc hnm, ?_⟩; try simp only [go_sem, Int.reduceEq, Int.reduceNe, Int.reduceLT, Int.reduceLE, Nat.reduceEqDiff, Nat.reduceAdd, Nat.reduceMul, Nat.reduceLT, Nat.reduceLeDiff, Nat.reduceSub, reduceCtorEq, reduceIte, Int.reduceToNat, intsV]
      refine hNs _ (VWp.keep [1,5,6,8,48,49,50] [1,6] ?_); simp only [go_sem, Int.reduceEq, Int.reduceNe, Int.reduceLT, Int.reduceLE, Nat.reduceEqDiff, Nat.reduceAdd, Nat.reduceMul, Nat.reduceLT, Nat.reduceLeDiff, Nat.reduceSub, reduceCtorEq, reduceIte, Int.reduceToNat, intsV]
      refine vmeet (fun b : Bool => [(1, .ptr 1 0), (48, .sl 2 (c.gs.map grpC)), (49, .int .i64 (c.gs.length : Int)), (50, .int .i64 (k : Int)), (94, .bool b)]) (fun _ => [(1, .box 25 [.sl 4 (c.es.map entC), .sl 2 (c.gs.map grpC)])])
        (fun b => if b then validC c = false else gOk c x = true ∧ (k = 0 ∨ (c.gs.getD (k - 1) default).base < x.base)) ?_ ?_
      · have hkg : c.es.length ≤ 1000000 := by omega
        have hil := idxG_length x.base c.es
        obtain ⟨li, hli⟩ : ∃ li, decide (x.limit < ((gensS c.es x.base).length : Int)) = li := ⟨_, rfl⟩
        have gbad : nm = true ∨ li = true → validC c = false := fun h => by
          refine bad_grp hlt ?_
          rw [hx]; unfold gOk
          rw [List.contains_eq_mem, hnm]
          rcases h with h | h
          · rw [h]; simp
          · rw [h] at hli
            rw [decide_eq_false (p := ((gensS c.es x.base).length : Int) ≤ x.limit) (by have := of_decide_eq_true hli; omega), Bool.and_false]
        have ggood : grpOk x = true → nm = false → li = false → gOk c x = true := fun h1 h2 h3 => by
          unfold gOk
          rw [List.contains_eq_mem, hnm, h1, h2]
          rw [h3] at hli
          rw [decide_eq_true (p := ((gensS c.es x.base).length : Int) ≤ x.limit) (by have := of_decide_eq_false hli; omega)]; rfl
        cases ho : grpOk x with
        | false =>
          refine vregd tt_ok mixed hF rfl (by kernel_rfl) (by kernel_rfl) ?_; simp only [go_sem, Int.reduceEq, Int.reduceNe, Int.reduceLT, Int.reduceLE, Nat.reduceEqDiff, Nat.reduceAdd, Nat.reduceMul, Nat.reduceLT, Nat.reduceLeDiff, Nat.reduceSub, reduceCtorEq, reduceIte, Int.reduceToNat, intsV]
          refine .inl ⟨_, validG_spec ho, ?_⟩; try simp only [go_sem, Int.reduceEq, Int.reduceNe, Int.reduceLT, Int.reduceLE, Nat.reduceEqDiff, Nat.reduceAdd, Nat.reduceMul, Nat.reduceLT, Nat.reduceLeDiff, Nat.reduceSub, reduceCtorEq, reduceIte, Int.reduceToNat, intsV]
          exact ⟨true, bad_grp hlt (by rw [hx]; unfold gOk; rw [ho]; rfl), by simp⟩
        | true =>
          have hxb : x.base.length ≤ 1000000 := by have := (grpOk_parts ho).2.1; omega
          rcases k with _ | j
          · cases nm with
            | true =>
              refine vregd tt_ok mixed hF rfl (by kernel_rfl) (by kernel_rfl) ?_; simp only [go_sem, Int.reduceEq, Int.reduceNe, Int.reduceLT, Int.reduceLE, Nat.reduceEqDiff, Nat.reduceAdd, Nat.reduceMul, Nat.reduceLT, Nat.reduceLeDiff, Nat.reduceSub, reduceCtorEq, reduceIte, Int.reduceToNat, intsV]
              refine .inl ⟨_, validG_spec ho, ?_⟩; try simp only [go_sem, Int.reduceEq, Int.reduceNe, Int.reduceLT, Int.reduceLE, Nat.reduceEqDiff, Nat.reduceAdd, Nat.reduceMul, Nat.reduceLT, Nat.reduceLeDiff, Nat.reduceSub, reduceCtorEq, reduceIte, Int.reduceToNat, intsV]
              exact ⟨true, gbad (.inl rfl), by simp⟩
            | false =>
              refine vregd tt_ok mixed hF rfl (by kernel_rfl) (by kernel_rfl) ?_; simp only [go_sem, Int.reduceEq, Int.reduceNe, Int.reduceLT, Int.reduceLE, Nat.reduceEqDiff, Nat.reduceAdd, Nat.reduceMul, Nat.reduceLT, Nat.reduceLeDiff, Nat.reduceSub, reduceCtorEq, reduceIte, Int.reduceToNat, intsV]
              refine .inl ⟨_, validG_spec ho, ?_⟩; try simp only [go_sem, Int.reduceEq, Int.reduceNe, Int.reduceLT, Int.reduceLE, Nat.reduceEqDiff, Nat.reduceAdd, Nat.reduceMul, Nat.reduceLT, Nat.reduceLeDiff, Nat.reduceSub, reduceCtorEq, reduceIte, Int.reduceToNat, intsV]
              refine .inl ⟨_, gens_spec x.base hxb hkg, ?_⟩; try simp only [go_sem, Int.reduceEq, Int.reduceNe, Int.reduceLT, Int.reduceLE, Nat.reduceEqDiff, Nat.reduceAdd, Nat.reduceMul, Nat.reduceLT, Nat.reduceLeDiff, Nat.reduceSub, reduceCtorEq, reduceIte, Int.reduceToNat, intsV]
              simp only [hil, hli, go_sem, Int.reduceEq, Int.reduceNe, Int.reduceLT, Int.reduceLE, Nat.reduceEqDiff, Nat.reduceAdd, Nat.reduceMul, Nat.reduceLT, Nat.reduceLeDiff, Nat.reduceSub, reduceCtorEq, reduceIte, Int.reduceToNat, intsV]
              cases li with
              | true => exact ⟨true, gbad (.inr rfl), by simp⟩
              | false => exact ⟨false, ⟨ggood ho rfl rfl, .inl trivial⟩, by simp⟩
          · obtain ⟨y, hy⟩ : ∃ y, c.gs.getD j default = y := ⟨_, rfl⟩
            have hrow2 : (c.gs.map grpC).getD j [] = [.str y.base, .int .i64 y.limit] := by rw [map_getD _ _ _ (by omega), hy]; rfl
            have hw : IntKind.i64.wrap (((j + 1 : Nat) : Int) - 1) = (j : Int) := by rw [wrap_i64 (by omega) (by omega)]; omega
            have f0 : decide ((0 : Int) < ((j + 1 : Nat) : Int)) = true := decide_eq_true (by omega)
            cases hor : (Op.bytesLess x.base y.base || decide (x.base = y.base)) with
            | true =>
              refine vregd tt_ok mixed hF rfl (by kernel_rfl) (by kernel_rfl) ?_; simp only [go_sem, Int.reduceEq, Int.reduceNe, Int.reduceLT, Int.reduceLE, Nat.reduceEqDiff, Nat.reduceAdd, Nat.reduceMul, Nat.reduceLT, Nat.reduceLeDiff, Nat.reduceSub, reduceCtorEq, reduceIte, Int.reduceToNat, intsV]
              refine .inl ⟨_, validG_spec ho, ?_⟩; try simp only [go_sem, Int.reduceEq, Int.reduceNe, Int.reduceLT, Int.reduceLE, Nat.reduceEqDiff, Nat.reduceAdd, Nat.reduceMul, Nat.reduceLT, Nat.reduceLeDiff, Nat.reduceSub, reduceCtorEq, reduceIte, Int.reduceToNat, intsV]
              simp only [f0, hw, hrow2, hor, go_sem, Int.reduceEq, Int.reduceNe, Int.reduceLT, Int.reduceLE, Nat.reduceEqDiff, Nat.reduceAdd, Nat.reduceMul, Nat.reduceLT, Nat.reduceLeDiff, Nat.reduceSub, reduceCtorEq, reduceIte, Int.reduceToNat, intsV]
              exact ⟨⟨by omega, by omega⟩, true, bad_gord hlt (by omega) (by rw [hx, show j + 1 - 1 = j from rfl, hy]; exact not_lt_of_le hor), by simp⟩
            | false =>
              have hlt' : (c.gs.getD (j + 1 - 1) default).base < x.base := by rw [show j + 1 - 1 = j from rfl, hy]; exact lt_of_not_le hor
              cases nm with
              | true =>
                refine vregd tt_ok mixed hF rfl (by kernel_rfl) (by kernel_rfl) ?_; simp only [go_sem, Int.reduceEq, Int.reduceNe, Int.reduceLT, Int.reduceLE, Nat.reduceEqDiff, Nat.reduceAdd, Nat.reduceMul, Nat.reduceLT, Nat.reduceLeDiff, Nat.reduceSub, reduceCtorEq, reduceIte, Int.reduceToNat, intsV]
                refine .inl ⟨_, validG_spec ho, ?_⟩; try simp only [go_sem, Int.reduceEq, Int.reduceNe, Int.reduceLT, Int.reduceLE, Nat.reduceEqDiff, Nat.reduceAdd, Nat.reduceMul, Nat.reduceLT, Nat.reduceLeDiff, Nat.reduceSub, reduceCtorEq, reduceIte, Int.reduceToNat, intsV]
                simp only [f0, hw, hrow2, hor, go_sem, Int.reduceEq, Int.reduceNe, Int.reduceLT, Int.reduceLE, Nat.reduceEqDiff, Nat.reduceAdd, Nat.reduceMul, Nat.reduceLT, Nat.reduceLeDiff, Nat.reduceSub, reduceCtorEq, reduceIte, Int.reduceToNat, intsV]
                exact ⟨⟨by omega, by omega⟩, true, gbad (.inl rfl), by simp⟩
              | false =>
                refine vregd tt_ok mixed hF rfl (by kernel_rfl) (by kernel_rfl) ?_; simp only [go_sem, Int.reduceEq, Int.reduceNe, Int.reduceLT, Int.reduceLE, Nat.reduceEqDiff, Nat.reduceAdd, Nat.reduceMul, Nat.reduceLT, Nat.reduceLeDiff, Nat.reduceSub, reduceCtorEq, reduceIte, Int.reduceToNat, intsV]
                refine .inl ⟨_, validG_spec ho, ?_⟩; try simp only [go_sem, Int.reduceEq, Int.reduceNe, Int.reduceLT, Int.reduceLE, Nat.reduceEqDiff, Nat.reduceAdd, Nat.reduceMul, Nat.reduceLT, Nat.reduceLeDiff, Nat.reduceSub, reduceCtorEq, reduceIte, Int.reduceToNat, intsV]
                simp only [f0, hw, hrow2, hor, go_sem, Int.reduceEq, Int.reduceNe, Int.reduceLT, Int.reduceLE, Nat.reduceEqDiff, Nat.reduceAdd, Nat.reduceMul, Nat.reduceLT, Nat.reduceLeDiff, Nat.reduceSub, reduceCtorEq, reduceIte, Int.reduceToNat, intsV]
                refine ⟨⟨by omega, by omega⟩, ?_⟩
                refine .inl ⟨_, gens_spec x.base hxb hkg, ?_⟩; try simp only [go_sem, Int.reduceEq, Int.reduceNe, Int.reduceLT, Int.reduceLE, Nat.reduceEqDiff, Nat.reduceAdd, Nat.reduceMul, Nat.reduceLT, Nat.reduceLeDiff, Nat.reduceSub, reduceCtorEq, reduceIte, Int.reduceToNat, intsV]
                simp only [hil, hli, go_sem, Int.reduceEq, Int.reduceNe, Int.reduceLT, Int.reduceLE, Nat.reduceEqDiff, Nat.reduceAdd, Nat.reduceMul, Nat.reduceLT, Nat.reduceLeDiff, Nat.reduceSub, reduceCtorEq, reduceIte, Int.reduceToNat, intsV]
                cases li with
                | true => exact ⟨true, gbad (.inr rfl), by simp⟩
                | false => exact ⟨false, ⟨ggood ho rfl rfl, .inr hlt'⟩, by simp⟩
      intro b hb
      refine vif rfl ⟨fun ht => ?_, fun hf => ?_⟩
      · rw [if_pos ht] at hb
        rw [hb]
        refine vwp_seq_k fun Nu hNu => vreg tt_ok hF rfl ?_; simp only [go_sem, Int.reduceEq, Int.reduceNe, Int.reduceLT, Int.reduceLE, Nat.reduceEqDiff, Nat.reduceAdd, Nat.reduceMul, Nat.reduceLT, Nat.reduceLeDiff, Nat.reduceSub, reduceCtorEq, reduceIte, Int.reduceToNat, intsV]
        refine hNu _ (VWp.keep [2] [] ?_); simp only [go_sem, Int.reduceEq, Int.reduceNe, Int.reduceLT, Int.reduceLE, Nat.reduceEqDiff, Nat.reduceAdd, Nat.reduceMul, Nat.reduceLT, Nat.reduceLeDiff, Nat.reduceSub, reduceCtorEq, reduceIte, Int.reduceToNat, intsV]
        refine vwp_ret ?_
        simp only [go_sem, Int.reduceEq, Int.reduceNe, Int.reduceLT, Int.reduceLE, Nat.reduceEqDiff, Nat.reduceAdd, Nat.reduceMul, Nat.reduceLT, Nat.reduceLeDiff, Nat.reduceSub, reduceCtorEq, reduceIte, Int.reduceToNat, intsV]
        exact LeV.refl _
      · rw [if_neg (by rw [hf]; decide)] at hb
        refine vwp_skip (hNq _ ?_)
        refine vreg tt_ok hF rfl ?_; simp only [go_sem, Int.reduceEq, Int.reduceNe, Int.reduceLT, Int.reduceLE, Nat.reduceEqDiff, Nat.reduceAdd, Nat.reduceMul, Nat.reduceLT, Nat.reduceLeDiff, Nat.reduceSub, reduceCtorEq, reduceIte, Int.reduceToNat, intsV]
        rw [wrap_i64 (by omega) (by omega)]
        refine ⟨k + 1, ⟨by omega, ckG_succ hlt hck (by rw [hx]; exact hb.1) (by rw [hx]; exact hb.2)⟩, by omega, by simp⟩
    · have hkl : k = c.gs.length := by have := of_decide_eq_false hf; omega
      subst hkl
      refine vwp_exit ?_
      simp only [go_sem, Int.reduceEq, Int.reduceNe, Int.reduceLT, Int.reduceLE, Nat.reduceEqDiff, Nat.reduceAdd, Nat.reduceMul, Nat.reduceLT, Nat.reduceLeDiff, Nat.reduceSub, reduceCtorEq, reduceIte, Int.reduceToNat, intsV]
      refine hNm _ (VWp.keep [] [] ?_); simp only [go_sem, Int.reduceEq, Int.reduceNe, Int.reduceLT, Int.reduceLE, Nat.reduceEqDiff, Nat.reduceAdd, Nat.reduceMul, Nat.reduceLT, Nat.reduceLeDiff, Nat.reduceSub, reduceCtorEq, reduceIte, Int.reduceToNat, intsV]
      rw [ck_all (by omega) (by omega) ⟨by rw [List.take_length]; exact ckall, by rw [List.take_length]; exact ckasc⟩ hck]
      refine vwp_seq_k fun Nv hNv => vreg tt_ok hF rfl ?_; simp only [go_sem, Int.reduceEq, Int.reduceNe, Int.reduceLT, Int.reduceLE, Nat.reduceEqDiff, Nat.reduceAdd, Nat.reduceMul, Nat.reduceLT, Nat.reduceLeDiff, Nat.reduceSub, reduceCtorEq, reduceIte, Int.reduceToNat, intsV]
      refine hNv _ (VWp.keep [2] [] ?_); simp only [go_sem, Int.reduceEq, Int.reduceNe, Int.reduceLT, Int.reduceLE, Nat.reduceEqDiff, Nat.reduceAdd, Nat.reduceMul, Nat.reduceLT, Nat.reduceLeDiff, Nat.reduceSub, reduceCtorEq, reduceIte, Int.reduceToNat, intsV]
      refine vwp_ret ?_
      simp only [go_sem, Int.reduceEq, Int.reduceNe, Int.reduceLT, Int.reduceLE, Nat.reduceEqDiff, Nat.reduceAdd, Nat.reduceMul, Nat.reduceLT, Nat.reduceLeDiff, Nat.reduceSub, reduceCtorEq, reduceIte, Int.reduceToNat, intsV]
      exact LeV.refl _
theorem Check_any (w : World) (ve vg : Value) (c : Cat) (hv : RdC w ve vg c) : Calls Tryz.prog 16 #[.agg #[ve, vg]] w fun e w' => e = .returned (.int .i64 (if validC c then 0 else 1)) ∧ Chg [] w w' :=
  ((Check_spec c).run (fun _ _ => False) w [.agg #[ve, vg]] (fun _ _ h => h.elim) ⟨_, _, rfl, rdc_rep hv, rfl⟩).mono fun e w' ⟨v, h1, h2, h3⟩ => ⟨by cases h3; exact h1, h2⟩
end Go.Proofs.YtldkmclfhjcicaaGreatDoor

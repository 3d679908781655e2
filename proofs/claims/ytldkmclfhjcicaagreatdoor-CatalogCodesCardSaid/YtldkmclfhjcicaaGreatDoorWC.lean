import Derived.Outline
import Derived.Test.YtldkmclfhjcicaaGreatDoorWB
import Derived.Test.YtldkmclfhjcicaaGreatDoorWT
/- The reference's Remove, Resolve. -/
namespace Go.Proofs.YtldkmclfhjcicaaGreatDoor
open Go.RowKit
set_option linter.unusedVariables false
set_option linter.unusedSimpArgs false
theorem rGen_spec (s : Bs) (n : Int) : Spec Tryz.prog 62 [.str s, .int .i64 n] (.tup [.str (genS s n).1, .bool (genS s n).2]) :=
  ⟨⟨_, Tryz.func62, rfl, by decide⟩, rfl, fun M w vs hM h => by
    obtain ⟨u, v, rfl, rfl, rfl⟩ := repL2 h
    refine (rGen_any ⟨s.toArray⟩ n w).mono ?_
    rintro e w' ⟨rfl, hc⟩
    exact ⟨_, rfl, hc, tup2 rfl rfl⟩⟩
theorem le_bad (x : V) (hx : x.refs = []) : LeV (.tup [.agg [.nil, .nil], x]) (.tup [.agg [.sl 4 (List.map entC []), .sl 2 (List.map grpC [])], x]) :=
  LeV.tup ⟨LeV.agg ⟨LeV.nil 4, LeV.nil 2, trivial⟩, LeV.refl _, trivial⟩
theorem removeC_1 {c : Cat} {s : Bs} (h : validC c = false) : removeC c s = (⟨[], []⟩, 1) := by unfold removeC; rw [h]; rfl
theorem removeC_3 {c : Cat} {s : Bs} (h : validC c = true) (hn : s ∉ namesS c.es) : removeC c s = (⟨[], []⟩, 3) := by unfold removeC; rw [h, if_neg (by simp), if_neg hn]
theorem removeC_0 {c : Cat} {s : Bs} (h : validC c = true) (hn : s ∈ namesS c.es) : removeC c s = (⟨c.es.eraseIdx ((namesS c.es).idxOf s), c.gs⟩, 0) := by
  unfold removeC; rw [h, if_neg (by simp), if_pos hn]
  obtain ⟨_, e2⟩ := idx_row c s hn
  have hx : c.es[(namesS c.es).idxOf s]? = some c.es[(namesS c.es).idxOf s] := List.getElem?_eq_getElem e2
  have hnm : (c.es[(namesS c.es).idxOf s]).name = s := by
    have h1 : (namesS c.es)[(namesS c.es).idxOf s]'(List.idxOf_lt_length_of_mem hn) = s := List.getElem_idxOf _
    unfold namesS at h1
    rw [List.getElem_map] at h1
    exact h1
  rw [dropE_idx _ _ _ (validC_all h).2.2.2.1 hx, hnm]; rfl

set_option maxHeartbeats 4000000 in
theorem rRemove_spec (c : Cat) (s : Bs) (h1 : c.es.length ≤ 1000000) (h2 : c.gs.length ≤ 1000000) : Spec Tryz.prog 29 [catV c, .str s] (.tup [catV (removeC c s).1, .int .i64 (removeC c s).2]) := by
  refine spec_of tt_ok Tryz.func29 rfl (by decide) Tryz.ntmps29 (congrArg Array.toList Tryz.results29) (by simp) (by decide) rfl rfl (fun F hF => ?_)
  refine vwp_seq_k fun N hN => vreg tt_ok hF rfl ?_; simp only [go_sem, Int.reduceEq, Int.reduceNe, Int.reduceLT, Int.reduceLE, Nat.reduceEqDiff, Nat.reduceAdd, Nat.reduceMul, Nat.reduceLT, Nat.reduceLeDiff, Nat.reduceSub, reduceCtorEq, reduceIte, Int.reduceToNat]
  refine hN _ (VWp.keep [1,2,4,5] [2,4] ?_); simp only [go_sem, Int.reduceEq, Int.reduceNe, Int.reduceLT, Int.reduceLE, Nat.reduceEqDiff, Nat.reduceAdd, Nat.reduceMul, Nat.reduceLT, Nat.reduceLeDiff, Nat.reduceSub, reduceCtorEq, reduceIte, Int.reduceToNat]
  refine vwp_seq_k fun N hN => ?_
  refine vwp_seq_k fun Na hNa => vreg tt_ok hF rfl ?_; simp only [go_sem, Int.reduceEq, Int.reduceNe, Int.reduceLT, Int.reduceLE, Nat.reduceEqDiff, Nat.reduceAdd, Nat.reduceMul, Nat.reduceLT, Nat.reduceLeDiff, Nat.reduceSub, reduceCtorEq, reduceIte, Int.reduceToNat]
  refine .inl ⟨_, Valid_spec c h1 h2, ?_⟩; try simp only [go_sem, Int.reduceEq, Int.reduceNe, Int.reduceLT, Int.reduceLE, Nat.reduceEqDiff, Nat.reduceAdd, Nat.reduceMul, Nat.reduceLT, Nat.reduceLeDiff, Nat.reduceSub, reduceCtorEq, reduceIte, Int.reduceToNat]
  refine hNa _ (VWp.keep [1,2,4,9] [2,4] ?_); simp only [go_sem, Int.reduceEq, Int.reduceNe, Int.reduceLT, Int.reduceLE, Nat.reduceEqDiff, Nat.reduceAdd, Nat.reduceMul, Nat.reduceLT, Nat.reduceLeDiff, Nat.reduceSub, reduceCtorEq, reduceIte, Int.reduceToNat]
  refine vif rfl ⟨fun ht => ?_, fun hf => ?_⟩
  · rw [Bool.not_eq_true'] at ht
    refine vwp_seq_k fun Nb hNb => vreg tt_ok hF rfl ?_; simp only [go_sem, Int.reduceEq, Int.reduceNe, Int.reduceLT, Int.reduceLE, Nat.reduceEqDiff, Nat.reduceAdd, Nat.reduceMul, Nat.reduceLT, Nat.reduceLeDiff, Nat.reduceSub, reduceCtorEq, reduceIte, Int.reduceToNat]
    refine hNb _ (vwp_ret ?_)
    simp only [go_sem, Int.reduceEq, Int.reduceNe, Int.reduceLT, Int.reduceLE, Nat.reduceEqDiff, Nat.reduceAdd, Nat.reduceMul, Nat.reduceLT, Nat.reduceLeDiff, Nat.reduceSub, reduceCtorEq, reduceIte, Int.reduceToNat]
    rw [removeC_1 ht]
    exact le_bad _ rfl
  · rw [Bool.not_eq_false'] at hf
    refine vwp_skip (hN _ ?_)
    refine vwp_seq_k fun N hN => vreg tt_ok hF rfl ?_; simp only [go_sem, Int.reduceEq, Int.reduceNe, Int.reduceLT, Int.reduceLE, Nat.reduceEqDiff, Nat.reduceAdd, Nat.reduceMul, Nat.reduceLT, Nat.reduceLeDiff, Nat.reduceSub, reduceCtorEq, reduceIte, Int.reduceToNat]
    refine .inl ⟨_, find_spec c s h1, ?_⟩; try simp only [go_sem, Int.reduceEq, Int.reduceNe, Int.reduceLT, Int.reduceLE, Nat.reduceEqDiff, Nat.reduceAdd, Nat.reduceMul, Nat.reduceLT, Nat.reduceLeDiff, Nat.reduceSub, reduceCtorEq, reduceIte, Int.reduceToNat]
    refine hN _ (VWp.keep [2,4,6] [2,4] ?_); simp only [go_sem, Int.reduceEq, Int.reduceNe, Int.reduceLT, Int.reduceLE, Nat.reduceEqDiff, Nat.reduceAdd, Nat.reduceMul, Nat.reduceLT, Nat.reduceLeDiff, Nat.reduceSub, reduceCtorEq, reduceIte, Int.reduceToNat]
    refine vwp_seq_k fun N hN => ?_
    refine vwp_seq_k fun Na hNa => vreg tt_ok hF rfl ?_; simp only [go_sem, Int.reduceEq, Int.reduceNe, Int.reduceLT, Int.reduceLE, Nat.reduceEqDiff, Nat.reduceAdd, Nat.reduceMul, Nat.reduceLT, Nat.reduceLeDiff, Nat.reduceSub, reduceCtorEq, reduceIte, Int.reduceToNat]
    refine hNa _ (VWp.keep [2,4,6,15] [2,4] ?_); simp only [go_sem, Int.reduceEq, Int.reduceNe, Int.reduceLT, Int.reduceLE, Nat.reduceEqDiff, Nat.reduceAdd, Nat.reduceMul, Nat.reduceLT, Nat.reduceLeDiff, Nat.reduceSub, reduceCtorEq, reduceIte, Int.reduceToNat]
    refine vif rfl ⟨fun ht => ?_, fun hg => ?_⟩
    · have hn : s ∉ namesS c.es := (fIdx_neg _ _).1 (of_decide_eq_true ht)
      refine vwp_seq_k fun Nb hNb => vreg tt_ok hF rfl ?_; simp only [go_sem, Int.reduceEq, Int.reduceNe, Int.reduceLT, Int.reduceLE, Nat.reduceEqDiff, Nat.reduceAdd, Nat.reduceMul, Nat.reduceLT, Nat.reduceLeDiff, Nat.reduceSub, reduceCtorEq, reduceIte, Int.reduceToNat]
      refine hNb _ (vwp_ret ?_)
      simp only [go_sem, Int.reduceEq, Int.reduceNe, Int.reduceLT, Int.reduceLE, Nat.reduceEqDiff, Nat.reduceAdd, Nat.reduceMul, Nat.reduceLT, Nat.reduceLeDiff, Nat.reduceSub, reduceCtorEq, reduceIte, Int.reduceToNat]
      rw [removeC_3 hf hn]
      exact le_bad _ rfl
    · have hn : s ∈ namesS c.es := by have := of_decide_eq_false hg; exact (fIdx_nonneg _ _).1 (by omega)
      refine vwp_skip (hN _ ?_)
      rw [(idx_row c s hn).1]
      refine vwp_seq_k fun Nb hNb => vreg tt_ok hF rfl ?_; simp only [go_sem, Int.reduceEq, Int.reduceNe, Int.reduceLT, Int.reduceLE, Nat.reduceEqDiff, Nat.reduceAdd, Nat.reduceMul, Nat.reduceLT, Nat.reduceLeDiff, Nat.reduceSub, reduceCtorEq, reduceIte, Int.reduceToNat]
      refine .inl ⟨_, without_spec c ((namesS c.es).idxOf s) h1 h2, ?_⟩; try simp only [go_sem, Int.reduceEq, Int.reduceNe, Int.reduceLT, Int.reduceLE, Nat.reduceEqDiff, Nat.reduceAdd, Nat.reduceMul, Nat.reduceLT, Nat.reduceLeDiff, Nat.reduceSub, reduceCtorEq, reduceIte, Int.reduceToNat]
      refine hNb _ (vwp_ret ?_)
      simp only [go_sem, Int.reduceEq, Int.reduceNe, Int.reduceLT, Int.reduceLE, Nat.reduceEqDiff, Nat.reduceAdd, Nat.reduceMul, Nat.reduceLT, Nat.reduceLeDiff, Nat.reduceSub, reduceCtorEq, reduceIte, Int.reduceToNat]
      rw [removeC_0 hf hn]
      exact LeV.refl _

theorem resolveC_1 {c : Cat} {s : Bs} {r : Int} (h : validC c = false) : resolveC c s r = ([], 1) := by unfold resolveC; rw [h]; rfl
theorem resolveC_3 {c : Cat} {s : Bs} {r : Int} (h : validC c = true) (hn : s ∉ basesS c.gs) : resolveC c s r = ([], 3) := by unfold resolveC; rw [h, if_neg (by simp), if_pos hn]
theorem resolveC_pos {c : Cat} {s : Bs} {r : Int} (h : validC c = true) (hn : s ∈ basesS c.gs) (hr : 0 < r) : resolveC c s r = if r > 9999 - ((numsS c.es s).getLastD 0 : Int) then ([], 6) else (genName s (((numsS c.es s).getLastD 0 : Int) + r).toNat, 0) := by
  unfold resolveC; rw [h, if_neg (by simp), if_neg (by simpa using hn), if_pos hr]
theorem resolveC_neg {c : Cat} {s : Bs} {r : Int} (h : validC c = true) (hn : s ∈ basesS c.gs) (hr : ¬ 0 < r) : resolveC c s r = if r ≤ -((gensS c.es s).length : Int) then ([], 3) else (((gensS c.es s).getD (((gensS c.es s).length : Int) - 1 + r).toNat default).name, 0) := by
  unfold resolveC; rw [h, if_neg (by simp), if_neg (by simpa using hn), if_neg hr]
theorem base_ok {c : Cat} {s : Bs} (h : validC c = true) (hn : s ∈ basesS c.gs) : nameOk s = true ∧ s.length ≤ 35 := by
  obtain ⟨g, hg, rfl⟩ := List.mem_map.1 hn
  have := (validC_all h).2.2.2.2.1
  rw [List.all_eq_true] at this
  obtain ⟨a, b, _, _⟩ := grpOk_parts (this g hg)
  exact ⟨a, b⟩
theorem gen_at {s : Bs} {n : Int} (h : nameOk s = true) (hl : s.length ≤ 35) (h1 : 1 ≤ n) (h2 : n ≤ 9999) : genS s n = (genName s n.toNat, true) := by
  unfold genS genOk; rw [h, decide_eq_true hl, decide_eq_true h1, decide_eq_true h2]; rfl
theorem nums_len (es : List Ent) (b : Bs) : (numsS es b).length = (gensS es b).length := by unfold numsS; rw [List.length_map]
theorem gens_name {es : List Ent} {b : Bs} {j : Nat} (h : j < (gensS es b).length) : 1 ≤ (numsS es b).getD j 0 ∧ (numsS es b).getD j 0 ≤ 9999 ∧ ((gensS es b).getD j default).name = genName b ((numsS es b).getD j 0) := by
  obtain ⟨x, hx⟩ : ∃ x, (gensS es b)[j]? = some x := ⟨_, List.getElem?_eq_getElem h⟩
  have hm : x ∈ gensS es b := List.mem_of_getElem? hx
  have hp := (mem_gensS.1 hm).2
  obtain ⟨a1, a2, a3⟩ := numS_form b x.name (by omega)
  have e1 : (numsS es b).getD j 0 = numS b x.name := by unfold numsS; simp [hx]
  have e2 : (gensS es b).getD j default = x := by simp [hx]
  rw [e1, e2]; exact ⟨a1, a2, a3⟩
theorem nums_row {l : List Nat} {j : Nat} (h : j < l.length) : (l.map fun (n : Nat) => [V.int .i64 (n : Int)]).getD j [] = [V.int .i64 ((l.getD j 0 : Nat) : Int)] := by
  simp [h]
theorem last_at {l : List Nat} (h : 0 < l.length) : l.getD (l.length - 1) 0 = l.getLastD 0 := by
  rw [List.getLastD_eq_getLast?, List.getLast?_eq_getElem?]; simp
set_option maxHeartbeats 4000000 in
set_option maxRecDepth 4000 in
theorem rResolve_spec (c : Cat) (s : Bs) (r : Int) (h1 : c.es.length ≤ 1000000) (h2 : c.gs.length ≤ 1000000) (hs : s.length ≤ 1000000) (hr1 : -9223372036854775808 ≤ r) (hr2 : r ≤ 9223372036854775807) :
    Spec Tryz.prog 31 [catV c, .str s, .int .i64 r] (.tup [.str (resolveC c s r).1, .int .i64 (resolveC c s r).2]) := by
  refine spec_of tt_ok Tryz.func31 rfl (by decide) Tryz.ntmps31 (congrArg Array.toList Tryz.results31) (by simp) (by decide) rfl rfl (fun F hF => ?_)
  refine vwp_seq_k fun N hN => vreg tt_ok hF rfl ?_; simp only [go_sem, Int.reduceEq, Int.reduceNe, Int.reduceLT, Int.reduceLE, Nat.reduceEqDiff, Nat.reduceAdd, Nat.reduceMul, Nat.reduceLT, Nat.reduceLeDiff, Nat.reduceSub, reduceCtorEq, reduceIte, Int.reduceToNat]
  refine hN _ (VWp.keep [1,2,3] [3] ?_); simp only [go_sem, Int.reduceEq, Int.reduceNe, Int.reduceLT, Int.reduceLE, Nat.reduceEqDiff, Nat.reduceAdd, Nat.reduceMul, Nat.reduceLT, Nat.reduceLeDiff, Nat.reduceSub, reduceCtorEq, reduceIte, Int.reduceToNat]
  refine vwp_seq_k fun N hN => ?_
  refine vwp_seq_k fun Na hNa => vreg tt_ok hF rfl ?_; simp only [go_sem, Int.reduceEq, Int.reduceNe, Int.reduceLT, Int.reduceLE, Nat.reduceEqDiff, Nat.reduceAdd, Nat.reduceMul, Nat.reduceLT, Nat.reduceLeDiff, Nat.reduceSub, reduceCtorEq, reduceIte, Int.reduceToNat]
  refine .inl ⟨_, Valid_spec c h1 h2, ?_⟩; try simp only [go_sem, Int.reduceEq, Int.reduceNe, Int.reduceLT, Int.reduceLE, Nat.reduceEqDiff, Nat.reduceAdd, Nat.reduceMul, Nat.reduceLT, Nat.reduceLeDiff, Nat.reduceSub, reduceCtorEq, reduceIte, Int.reduceToNat]
  refine hNa _ (VWp.keep [1,2,3,16] [3] ?_); simp only [go_sem, Int.reduceEq, Int.reduceNe, Int.reduceLT, Int.reduceLE, Nat.reduceEqDiff, Nat.reduceAdd, Nat.reduceMul, Nat.reduceLT, Nat.reduceLeDiff, Nat.reduceSub, reduceCtorEq, reduceIte, Int.reduceToNat]
  refine vif rfl ⟨fun ht => ?_, fun hv => ?_⟩
  · rw [Bool.not_eq_true'] at ht
    refine vwp_seq_k fun Nb hNb => vreg tt_ok hF rfl ?_; simp only [go_sem, Int.reduceEq, Int.reduceNe, Int.reduceLT, Int.reduceLE, Nat.reduceEqDiff, Nat.reduceAdd, Nat.reduceMul, Nat.reduceLT, Nat.reduceLeDiff, Nat.reduceSub, reduceCtorEq, reduceIte, Int.reduceToNat]
    refine hNb _ (vwp_ret ?_)
    simp only [go_sem, Int.reduceEq, Int.reduceNe, Int.reduceLT, Int.reduceLE, Nat.reduceEqDiff, Nat.reduceAdd, Nat.reduceMul, Nat.reduceLT, Nat.reduceLeDiff, Nat.reduceSub, reduceCtorEq, reduceIte, Int.reduceToNat]
    rw [resolveC_1 ht]
    exact LeV.refl _
  rw [Bool.not_eq_false'] at hv
  refine vwp_skip (hN _ ?_)
  refine vwp_seq_k fun N hN => ?_
  refine vwp_seq_k fun Na hNa => vreg tt_ok hF rfl ?_; simp only [go_sem, Int.reduceEq, Int.reduceNe, Int.reduceLT, Int.reduceLE, Nat.reduceEqDiff, Nat.reduceAdd, Nat.reduceMul, Nat.reduceLT, Nat.reduceLeDiff, Nat.reduceSub, reduceCtorEq, reduceIte, Int.reduceToNat]
  refine .inl ⟨_, base_spec c s h2, ?_⟩; try simp only [go_sem, Int.reduceEq, Int.reduceNe, Int.reduceLT, Int.reduceLE, Nat.reduceEqDiff, Nat.reduceAdd, Nat.reduceMul, Nat.reduceLT, Nat.reduceLeDiff, Nat.reduceSub, reduceCtorEq, reduceIte, Int.reduceToNat]
  refine hNa _ (VWp.keep [1,2,3,20] [3] ?_); simp only [go_sem, Int.reduceEq, Int.reduceNe, Int.reduceLT, Int.reduceLE, Nat.reduceEqDiff, Nat.reduceAdd, Nat.reduceMul, Nat.reduceLT, Nat.reduceLeDiff, Nat.reduceSub, reduceCtorEq, reduceIte, Int.reduceToNat]
  refine vif rfl ⟨fun ht => ?_, fun hg => ?_⟩
  · have hn : s ∉ basesS c.gs := (fIdx_neg _ _).1 (of_decide_eq_true ht)
    refine vwp_seq_k fun Nb hNb => vreg tt_ok hF rfl ?_; simp only [go_sem, Int.reduceEq, Int.reduceNe, Int.reduceLT, Int.reduceLE, Nat.reduceEqDiff, Nat.reduceAdd, Nat.reduceMul, Nat.reduceLT, Nat.reduceLeDiff, Nat.reduceSub, reduceCtorEq, reduceIte, Int.reduceToNat]
    refine hNb _ (vwp_ret ?_)
    simp only [go_sem, Int.reduceEq, Int.reduceNe, Int.reduceLT, Int.reduceLE, Nat.reduceEqDiff, Nat.reduceAdd, Nat.reduceMul, Nat.reduceLT, Nat.reduceLeDiff, Nat.reduceSub, reduceCtorEq, reduceIte, Int.reduceToNat]
    rw [resolveC_3 hv hn]
    exact LeV.refl _
  have hn : s ∈ basesS c.gs := by have := of_decide_eq_false hg; exact (fIdx_nonneg _ _).1 (by omega)
  obtain ⟨ok1, ok2⟩ := base_ok hv hn
  have hlen := nums_len c.es s
  have hle : (numsS c.es s).length ≤ 1000000 := by rw [hlen]; unfold gensS; exact Nat.le_trans (List.length_filter_le _ _) h1
  refine vwp_skip (hN _ ?_)
  refine vwp_seq_k fun N hN => vreg tt_ok hF rfl ?_; simp only [go_sem, Int.reduceEq, Int.reduceNe, Int.reduceLT, Int.reduceLE, Nat.reduceEqDiff, Nat.reduceAdd, Nat.reduceMul, Nat.reduceLT, Nat.reduceLeDiff, Nat.reduceSub, reduceCtorEq, reduceIte, Int.reduceToNat]
  refine .inl ⟨_, numbers_spec c s h1 hs, ?_⟩; try simp only [go_sem, Int.reduceEq, Int.reduceNe, Int.reduceLT, Int.reduceLE, Nat.reduceEqDiff, Nat.reduceAdd, Nat.reduceMul, Nat.reduceLT, Nat.reduceLeDiff, Nat.reduceSub, reduceCtorEq, reduceIte, Int.reduceToNat]
  simp only [intsV, go_sem, Int.reduceEq, Int.reduceNe, Int.reduceLT, Int.reduceLE, Nat.reduceEqDiff, Nat.reduceAdd, Nat.reduceMul, Nat.reduceLT, Nat.reduceLeDiff, Nat.reduceSub, reduceCtorEq, reduceIte, Int.reduceToNat]
  refine hN _ (VWp.keepR [1,2,8] [] tt_ok hF rfl fun N hN => ?_); simp only [go_sem, Int.reduceEq, Int.reduceNe, Int.reduceLT, Int.reduceLE, Nat.reduceEqDiff, Nat.reduceAdd, Nat.reduceMul, Nat.reduceLT, Nat.reduceLeDiff, Nat.reduceSub, reduceCtorEq, reduceIte, Int.reduceToNat]
  refine hN _ (VWp.keep [1,2,8,9] [] ?_); simp only [go_sem, Int.reduceEq, Int.reduceNe, Int.reduceLT, Int.reduceLE, Nat.reduceEqDiff, Nat.reduceAdd, Nat.reduceMul, Nat.reduceLT, Nat.reduceLeDiff, Nat.reduceSub, reduceCtorEq, reduceIte, Int.reduceToNat]
  refine vmeet (fun _ : Unit => [(1, .str s), (2, .int .i64 r), (8, .sl 1 ((numsS c.es s).map fun (n : Nat) => [V.int .i64 (n : Int)])), (9, .int .i64 (((numsS c.es s).getLastD 0 : Nat) : Int))]) (fun _ => []) (fun _ => True) ?_ ?_
  · refine vwp_seq_k fun Na hNa => vreg tt_ok hF rfl ?_; simp only [go_sem, Int.reduceEq, Int.reduceNe, Int.reduceLT, Int.reduceLE, Nat.reduceEqDiff, Nat.reduceAdd, Nat.reduceMul, Nat.reduceLT, Nat.reduceLeDiff, Nat.reduceSub, reduceCtorEq, reduceIte, Int.reduceToNat]
    refine hNa _ (VWp.keep [1,2,8,9,26] [] ?_); simp only [go_sem, Int.reduceEq, Int.reduceNe, Int.reduceLT, Int.reduceLE, Nat.reduceEqDiff, Nat.reduceAdd, Nat.reduceMul, Nat.reduceLT, Nat.reduceLeDiff, Nat.reduceSub, reduceCtorEq, reduceIte, Int.reduceToNat]
    refine vif rfl ⟨fun ht => ?_, fun hg => ?_⟩
    · have hp : 0 < (numsS c.es s).length := by have := of_decide_eq_true ht; omega
      have hw : IntKind.i64.wrap (((numsS c.es s).length : Int) - 1) = (((numsS c.es s).length - 1 : Nat) : Int) := by rw [wrap_i64 (by omega) (by omega)]; omega
      have hrow := nums_row (l := numsS c.es s) (j := (numsS c.es s).length - 1) (by omega)
      rw [last_at hp] at hrow
      refine vreg tt_ok hF rfl ?_; simp only [go_sem, Int.reduceEq, Int.reduceNe, Int.reduceLT, Int.reduceLE, Nat.reduceEqDiff, Nat.reduceAdd, Nat.reduceMul, Nat.reduceLT, Nat.reduceLeDiff, Nat.reduceSub, reduceCtorEq, reduceIte, Int.reduceToNat]
      simp only [hw, hrow, go_sem, Int.reduceEq, Int.reduceNe, Int.reduceLT, Int.reduceLE, Nat.reduceEqDiff, Nat.reduceAdd, Nat.reduceMul, Nat.reduceLT, Nat.reduceLeDiff, Nat.reduceSub, reduceCtorEq, reduceIte, Int.reduceToNat]
      exact ⟨⟨by omega, by omega⟩, (), trivial⟩
    · have hp : (numsS c.es s).length = 0 := by have := of_decide_eq_false hg; omega
      have hz : (numsS c.es s).getLastD 0 = 0 := by rw [List.eq_nil_of_length_eq_zero hp]; rfl
      refine vwp_skip ⟨(), ?_⟩
      simp only [go_sem, Int.reduceEq, Int.reduceNe, Int.reduceLT, Int.reduceLE, Nat.reduceEqDiff, Nat.reduceAdd, Nat.reduceMul, Nat.reduceLT, Nat.reduceLeDiff, Nat.reduceSub, reduceCtorEq, reduceIte, Int.reduceToNat, hz]
  · intro _ _
    have hmax := newest_max c.es s
    obtain ⟨z, hz⟩ : ∃ z, (numsS c.es s).getLastD 0 = z := ⟨_, rfl⟩
    rw [hz] at hmax ⊢
    refine vwp_seq_k fun N hN => ?_
    refine vwp_seq_k fun Na hNa => vreg tt_ok hF rfl ?_; simp only [go_sem, Int.reduceEq, Int.reduceNe, Int.reduceLT, Int.reduceLE, Nat.reduceEqDiff, Nat.reduceAdd, Nat.reduceMul, Nat.reduceLT, Nat.reduceLeDiff, Nat.reduceSub, reduceCtorEq, reduceIte, Int.reduceToNat]
    refine hNa _ (VWp.keep [1,2,8,9,34] [] ?_); simp only [go_sem, Int.reduceEq, Int.reduceNe, Int.reduceLT, Int.reduceLE, Nat.reduceEqDiff, Nat.reduceAdd, Nat.reduceMul, Nat.reduceLT, Nat.reduceLeDiff, Nat.reduceSub, reduceCtorEq, reduceIte, Int.reduceToNat]
    refine vif rfl ⟨fun ht => ?_, fun hg => ?_⟩
    · have hr := of_decide_eq_true ht
      have hres := resolveC_pos (c := c) (s := s) (r := r) hv hn hr
      rw [hz] at hres
      have hw : IntKind.i64.wrap (9999 - (z : Int)) = 9999 - z := wrap_i64 (by omega) (by omega)
      refine vwp_seq_k fun Nb hNb => ?_
      refine vwp_seq_k fun Nc hNc => ?_
      refine vreg tt_ok hF rfl ?_; simp only [go_sem, Int.reduceEq, Int.reduceNe, Int.reduceLT, Int.reduceLE, Nat.reduceEqDiff, Nat.reduceAdd, Nat.reduceMul, Nat.reduceLT, Nat.reduceLeDiff, Nat.reduceSub, reduceCtorEq, reduceIte, Int.reduceToNat, hw]
      refine hNc _ (VWp.keep [1,2,9,38] [] ?_); simp only [go_sem, Int.reduceEq, Int.reduceNe, Int.reduceLT, Int.reduceLE, Nat.reduceEqDiff, Nat.reduceAdd, Nat.reduceMul, Nat.reduceLT, Nat.reduceLeDiff, Nat.reduceSub, reduceCtorEq, reduceIte, Int.reduceToNat]
      refine vif rfl ⟨fun ht => ?_, fun hg => ?_⟩
      · rw [if_pos (of_decide_eq_true ht)] at hres
        refine vwp_seq_k fun Nd hNd => vreg tt_ok hF rfl ?_; simp only [go_sem, Int.reduceEq, Int.reduceNe, Int.reduceLT, Int.reduceLE, Nat.reduceEqDiff, Nat.reduceAdd, Nat.reduceMul, Nat.reduceLT, Nat.reduceLeDiff, Nat.reduceSub, reduceCtorEq, reduceIte, Int.reduceToNat]
        refine hNd _ (vwp_ret ?_)
        simp only [go_sem, Int.reduceEq, Int.reduceNe, Int.reduceLT, Int.reduceLE, Nat.reduceEqDiff, Nat.reduceAdd, Nat.reduceMul, Nat.reduceLT, Nat.reduceLeDiff, Nat.reduceSub, reduceCtorEq, reduceIte, Int.reduceToNat]
        rw [hres]
        exact LeV.refl _
      · have hq := of_decide_eq_false hg
        rw [if_neg (by omega)] at hres
        have hw2 : IntKind.i64.wrap ((z : Int) + r) = z + r := wrap_i64 (by omega) (by omega)
        refine vwp_skip (hNb _ ?_)
        refine vwp_seq_k fun Nd hNd => vreg tt_ok hF rfl ?_; simp only [go_sem, Int.reduceEq, Int.reduceNe, Int.reduceLT, Int.reduceLE, Nat.reduceEqDiff, Nat.reduceAdd, Nat.reduceMul, Nat.reduceLT, Nat.reduceLeDiff, Nat.reduceSub, reduceCtorEq, reduceIte, Int.reduceToNat, hw2]
        refine .inl ⟨_, rGen_spec s (z + r), ?_⟩; try simp only [go_sem, Int.reduceEq, Int.reduceNe, Int.reduceLT, Int.reduceLE, Nat.reduceEqDiff, Nat.reduceAdd, Nat.reduceMul, Nat.reduceLT, Nat.reduceLeDiff, Nat.reduceSub, reduceCtorEq, reduceIte, Int.reduceToNat]
        rw [gen_at ok1 ok2 (by omega) (by omega)]
        refine hNd _ (VWp.keepR [10] [] tt_ok hF rfl fun Ne hNe => ?_); simp only [go_sem, Int.reduceEq, Int.reduceNe, Int.reduceLT, Int.reduceLE, Nat.reduceEqDiff, Nat.reduceAdd, Nat.reduceMul, Nat.reduceLT, Nat.reduceLeDiff, Nat.reduceSub, reduceCtorEq, reduceIte, Int.reduceToNat]
        refine hNe _ (vwp_ret ?_)
        simp only [go_sem, Int.reduceEq, Int.reduceNe, Int.reduceLT, Int.reduceLE, Nat.reduceEqDiff, Nat.reduceAdd, Nat.reduceMul, Nat.reduceLT, Nat.reduceLeDiff, Nat.reduceSub, reduceCtorEq, reduceIte, Int.reduceToNat]
        rw [hres]
        exact LeV.refl _
    · have hr := of_decide_eq_false hg
      have hres := resolveC_neg (c := c) (s := s) (r := r) hv hn hr
      rw [← hlen] at hres
      have hw : IntKind.i64.wrap (0 - ((numsS c.es s).length : Int)) = - ((numsS c.es s).length : Int) := by rw [wrap_i64 (by omega) (by omega)]; omega
      refine vwp_skip (hN _ ?_)
      refine vwp_seq_k fun N hN => ?_
      refine vwp_seq_k fun Na hNa => vreg tt_ok hF rfl ?_; simp only [go_sem, Int.reduceEq, Int.reduceNe, Int.reduceLT, Int.reduceLE, Nat.reduceEqDiff, Nat.reduceAdd, Nat.reduceMul, Nat.reduceLT, Nat.reduceLeDiff, Nat.reduceSub, reduceCtorEq, reduceIte, Int.reduceToNat, hw]
      refine hNa _ (VWp.keep [1,2,8,52] [] ?_); simp only [go_sem, Int.reduceEq, Int.reduceNe, Int.reduceLT, Int.reduceLE, Nat.reduceEqDiff, Nat.reduceAdd, Nat.reduceMul, Nat.reduceLT, Nat.reduceLeDiff, Nat.reduceSub, reduceCtorEq, reduceIte, Int.reduceToNat]
      refine vif rfl ⟨fun ht => ?_, fun hg => ?_⟩
      · rw [if_pos (of_decide_eq_true ht)] at hres
        refine vwp_seq_k fun Nd hNd => vreg tt_ok hF rfl ?_; simp only [go_sem, Int.reduceEq, Int.reduceNe, Int.reduceLT, Int.reduceLE, Nat.reduceEqDiff, Nat.reduceAdd, Nat.reduceMul, Nat.reduceLT, Nat.reduceLeDiff, Nat.reduceSub, reduceCtorEq, reduceIte, Int.reduceToNat]
        refine hNd _ (vwp_ret ?_)
        simp only [go_sem, Int.reduceEq, Int.reduceNe, Int.reduceLT, Int.reduceLE, Nat.reduceEqDiff, Nat.reduceAdd, Nat.reduceMul, Nat.reduceLT, Nat.reduceLeDiff, Nat.reduceSub, reduceCtorEq, reduceIte, Int.reduceToNat]
        rw [hres]
        exact LeV.refl _
      · have hq := of_decide_eq_false hg
        rw [if_neg hq] at hres
        obtain ⟨j, hj⟩ : ∃ j : Nat, ((numsS c.es s).length : Int) - 1 + r = j := ⟨(((numsS c.es s).length : Int) - 1 + r).toNat, by omega⟩
        have hjl : j < (numsS c.es s).length := by omega
        have hw1 : IntKind.i64.wrap (((numsS c.es s).length : Int) - 1) = ((numsS c.es s).length : Int) - 1 := wrap_i64 (by omega) (by omega)
        have hw2 : IntKind.i64.wrap (((numsS c.es s).length : Int) - 1 + r) = (j : Int) := by rw [wrap_i64 (by omega) (by omega)]; exact hj
        have hrow := nums_row hjl
        obtain ⟨g1, g2, g3⟩ := gens_name (es := c.es) (b := s) (j := j) (by omega)
        rw [hj, Int.toNat_natCast, g3] at hres
        refine vwp_skip (hN _ ?_)
        refine vwp_seq_k fun Nd hNd => vreg tt_ok hF rfl ?_; simp only [go_sem, Int.reduceEq, Int.reduceNe, Int.reduceLT, Int.reduceLE, Nat.reduceEqDiff, Nat.reduceAdd, Nat.reduceMul, Nat.reduceLT, Nat.reduceLeDiff, Nat.reduceSub, reduceCtorEq, reduceIte, Int.reduceToNat, hw1, hw2, hrow]
        refine ⟨⟨by omega, by omega⟩, ?_⟩
        refine .inl ⟨_, rGen_spec s ((numsS c.es s).getD j 0 : Nat), ?_⟩; try simp only [go_sem, Int.reduceEq, Int.reduceNe, Int.reduceLT, Int.reduceLE, Nat.reduceEqDiff, Nat.reduceAdd, Nat.reduceMul, Nat.reduceLT, Nat.reduceLeDiff, Nat.reduceSub, reduceCtorEq, reduceIte, Int.reduceToNat]
        rw [gen_at ok1 ok2 (by omega) (by omega)]
        refine hNd _ (VWp.keepR [12] [] tt_ok hF rfl fun Ne hNe => ?_); simp only [go_sem, Int.reduceEq, Int.reduceNe, Int.reduceLT, Int.reduceLE, Nat.reduceEqDiff, Nat.reduceAdd, Nat.reduceMul, Nat.reduceLT, Nat.reduceLeDiff, Nat.reduceSub, reduceCtorEq, reduceIte, Int.reduceToNat]
        refine hNe _ (vwp_ret ?_)
        simp only [go_sem, Int.reduceEq, Int.reduceNe, Int.reduceLT, Int.reduceLE, Nat.reduceEqDiff, Nat.reduceAdd, Nat.reduceMul, Nat.reduceLT, Nat.reduceLeDiff, Nat.reduceSub, reduceCtorEq, reduceIte, Int.reduceToNat]
        rw [hres]
        exact LeV.refl _
end Go.Proofs.YtldkmclfhjcicaaGreatDoor

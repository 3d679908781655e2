import Derived.Outline
import Derived.Test.YtldkmclfhjcicaaGreatDoorWF
/- The law's Do, Make. -/
-- SIMP: opV, opC
namespace Go.Proofs.YtldkmclfhjcicaaGreatDoor
open Go.RowKit
set_option linter.unusedVariables false
set_option linter.unusedSimpArgs false
theorem wordB_le (n : Nat) : (wordB n).length ≤ 35 := (wordB_facts _ (wordB_mem n)).2.2.2
theorem wordS_le (n : Nat) : (wordS n).length ≤ 1000000 := by
  have := wordB_le n
  unfold wordS; split
  · omega
  · unfold genName dig4; simp; omega
theorem kind4 (n : Nat) : ((n : Int).tmod 4) = ((n % 4 : Nat) : Int) := by rw [tmod_pos (by omega)]; omega
theorem which3 (n : Nat) (h : n < 256) : IntKind.u8.wrap (IntKind.u8.wrap ((n : Int).tdiv 3) * 3) = ((n / 3 * 3 : Nat) : Int) := by rw [tdiv_pos (by omega), wrap_u8, wrap_u8]; omega
theorem stepC_def (c : Cat) (o : OpS) : stepC c o =
    match o.kind % 4 with
    | 0 => if (addC c (entS (wordS o.which) o)).2.2 = 0 then (addC c (entS (wordS o.which) o)).1 else c
    | 1 => if (removeC c (wordS o.which)).2 = 0 then (removeC c (wordS o.which)).1 else c
    | 2 => if (defineC c (wordS o.which) (1 + o.n % 4)).2 = 0 then (defineC c (wordS o.which) (1 + o.n % 4)).1 else c
    | _ => if (resolveC c (wordS (o.which / 3 * 3)) (1 + o.n % 5)).2 = 0 then
        (if (addC c (entS (resolveC c (wordS (o.which / 3 * 3)) (1 + o.n % 5)).1 o)).2.2 = 0 then (addC c (entS (resolveC c (wordS (o.which / 3 * 3)) (1 + o.n % 5)).1 o)).1 else c) else c := by
  unfold stepC
  obtain ⟨m, hm⟩ : ∃ m, o.kind % 4 = m := ⟨_, rfl⟩
  rw [hm]
  match m with
  | 0 => rfl
  | 1 => rfl
  | 2 => rfl
  | _ + 3 => simp
set_option maxHeartbeats 4000000 in
set_option maxRecDepth 4000 in
theorem Do_spec (c : Cat) (o : OpS) (ho : OpOk o) (h1 : c.es.length ≤ 1000000) (h2 : c.gs.length ≤ 1000000) : Spec Tryz.prog 11 [catV c, opV o] (catV (stepC c o)) := by
  refine spec_of tt_ok Tryz.func11 rfl (by decide) Tryz.ntmps11 (congrArg Array.toList Tryz.results11) (by simp) (by decide) rfl rfl (fun F hF => ?_)
  refine vwp_seq_k fun N hN => vreg tt_ok hF rfl ?_; simp only [go_sem, Int.reduceEq, Int.reduceNe, Int.reduceLT, Int.reduceLE, Nat.reduceEqDiff, Nat.reduceAdd, Nat.reduceMul, Nat.reduceLT, Nat.reduceLeDiff, Nat.reduceSub, reduceCtorEq, reduceIte, Int.reduceToNat, opV, opC]
  refine hN _ (VWp.keepR [2,3,4] [2,3,4] tt_ok hF rfl fun N hN => ?_); simp only [go_sem, Int.reduceEq, Int.reduceNe, Int.reduceLT, Int.reduceLE, Nat.reduceEqDiff, Nat.reduceAdd, Nat.reduceMul, Nat.reduceLT, Nat.reduceLeDiff, Nat.reduceSub, reduceCtorEq, reduceIte, Int.reduceToNat, opV, opC]
  refine .inl ⟨_, Word_spec o.which ho.w, ?_⟩; try simp only [go_sem, Int.reduceEq, Int.reduceNe, Int.reduceLT, Int.reduceLE, Nat.reduceEqDiff, Nat.reduceAdd, Nat.reduceMul, Nat.reduceLT, Nat.reduceLeDiff, Nat.reduceSub, reduceCtorEq, reduceIte, Int.reduceToNat, opV, opC]
  refine hN _ (VWp.keepR [2,3,4,5] [2,3,4] tt_ok hF rfl fun N hN => ?_); simp only [go_sem, Int.reduceEq, Int.reduceNe, Int.reduceLT, Int.reduceLE, Nat.reduceEqDiff, Nat.reduceAdd, Nat.reduceMul, Nat.reduceLT, Nat.reduceLeDiff, Nat.reduceSub, reduceCtorEq, reduceIte, Int.reduceToNat, opV, opC]
  refine hN _ (VWp.keep [2,3,4,5,6,7] [2,3,4,6] ?_); simp only [go_sem, Int.reduceEq, Int.reduceNe, Int.reduceLT, Int.reduceLE, Nat.reduceEqDiff, Nat.reduceAdd, Nat.reduceMul, Nat.reduceLT, Nat.reduceLeDiff, Nat.reduceSub, reduceCtorEq, reduceIte, Int.reduceToNat, opV, opC]
  refine vmeet (fun z : Cat × Int => [(2, .ptr 2 0), (4, .ptr 4 0), (6, .ptr 6 0), (7, .int .i64 z.2)])
    (fun z => [(2, .box 31 [.sl 4 (c.es.map entC), .sl 2 (c.gs.map grpC)]), (4, .box 31 [.nil, .nil]), (6, .box 31 [.sl 4 (z.1.es.map entC), .sl 2 (z.1.gs.map grpC)])])
    (fun z => stepC c o = if z.2 = 0 then z.1 else c) ?_ ?_
  · refine vwp_seq_k fun Na hNa => vreg tt_ok hF rfl ?_; simp only [go_sem, Int.reduceEq, Int.reduceNe, Int.reduceLT, Int.reduceLE, Nat.reduceEqDiff, Nat.reduceAdd, Nat.reduceMul, Nat.reduceLT, Nat.reduceLeDiff, Nat.reduceSub, reduceCtorEq, reduceIte, Int.reduceToNat, opV, opC, kind4]
    obtain ⟨m5a, m5b⟩ := toI_mod ho 5 (by omega) (by omega)
    obtain ⟨m4a, m4b⟩ := toI_mod ho 4 (by omega) (by omega)
    have hw3 := which3 o.which ho.w
    have hst := stepC_def c o
    obtain ⟨m, hm⟩ : ∃ m, o.kind % 4 = m := ⟨_, rfl⟩
    have hm4 : m < 4 := by omega
    rw [hm] at hst ⊢
    refine hNa _ (VWp.keep [2,3,4,5,6,7,16] [2,3,4,6] ?_); simp only [go_sem, Int.reduceEq, Int.reduceNe, Int.reduceLT, Int.reduceLE, Nat.reduceEqDiff, Nat.reduceAdd, Nat.reduceMul, Nat.reduceLT, Nat.reduceLeDiff, Nat.reduceSub, reduceCtorEq, reduceIte, Int.reduceToNat, opV, opC]
    refine vwp_block ?_
    have hc : m = 0 ∨ m = 1 ∨ m = 2 ∨ m = 3 := by omega
    rcases hc with rfl | rfl | rfl | rfl
    · refine vwp_seq_k fun Nb hNb => vreg tt_ok hF rfl ?_; simp only [go_sem, Int.reduceEq, Int.reduceNe, Int.reduceLT, Int.reduceLE, Nat.reduceEqDiff, Nat.reduceAdd, Nat.reduceMul, Nat.reduceLT, Nat.reduceLeDiff, Nat.reduceSub, reduceCtorEq, reduceIte, Int.reduceToNat, opV, opC]
      refine hNb _ (VWp.keep [2,3,4,5,6,7,16,45] [2,3,4,6] ?_); simp only [go_sem, Int.reduceEq, Int.reduceNe, Int.reduceLT, Int.reduceLE, Nat.reduceEqDiff, Nat.reduceAdd, Nat.reduceMul, Nat.reduceLT, Nat.reduceLeDiff, Nat.reduceSub, reduceCtorEq, reduceIte, Int.reduceToNat, opV, opC]
      refine vif rfl ⟨fun _ => ?_, fun hf => (by cases hf)⟩
      refine vregd tt_ok mixed hF rfl (by kernel_rfl) (by kernel_rfl) ?_; simp only [go_sem, Int.reduceEq, Int.reduceNe, Int.reduceLT, Int.reduceLE, Nat.reduceEqDiff, Nat.reduceAdd, Nat.reduceMul, Nat.reduceLT, Nat.reduceLeDiff, Nat.reduceSub, reduceCtorEq, reduceIte, Int.reduceToNat, opV, opC]
      refine .inl ⟨_, lentry_spec (wordS o.which) o ho, ?_⟩; try simp only [go_sem, Int.reduceEq, Int.reduceNe, Int.reduceLT, Int.reduceLE, Nat.reduceEqDiff, Nat.reduceAdd, Nat.reduceMul, Nat.reduceLT, Nat.reduceLeDiff, Nat.reduceSub, reduceCtorEq, reduceIte, Int.reduceToNat, opV, opC]
      refine .inl ⟨_, rAdd_spec c (entS (wordS o.which) o) h1 h2, ?_⟩; try simp only [go_sem, Int.reduceEq, Int.reduceNe, Int.reduceLT, Int.reduceLE, Nat.reduceEqDiff, Nat.reduceAdd, Nat.reduceMul, Nat.reduceLT, Nat.reduceLeDiff, Nat.reduceSub, reduceCtorEq, reduceIte, Int.reduceToNat, opV, opC]
      exact ⟨((addC c (entS (wordS o.which) o)).1, (addC c (entS (wordS o.which) o)).2.2), by rw [hst]; rfl, by simp⟩
    · refine vwp_seq_k fun Nb hNb => vreg tt_ok hF rfl ?_; simp only [go_sem, Int.reduceEq, Int.reduceNe, Int.reduceLT, Int.reduceLE, Nat.reduceEqDiff, Nat.reduceAdd, Nat.reduceMul, Nat.reduceLT, Nat.reduceLeDiff, Nat.reduceSub, reduceCtorEq, reduceIte, Int.reduceToNat, opV, opC]
      refine hNb _ (VWp.keep [2,3,4,5,6,7,16,45] [2,3,4,6] ?_); simp only [go_sem, Int.reduceEq, Int.reduceNe, Int.reduceLT, Int.reduceLE, Nat.reduceEqDiff, Nat.reduceAdd, Nat.reduceMul, Nat.reduceLT, Nat.reduceLeDiff, Nat.reduceSub, reduceCtorEq, reduceIte, Int.reduceToNat, opV, opC]
      refine vif rfl ⟨fun hf => (by cases hf), fun _ => ?_⟩
      refine vwp_seq_k fun Nc hNc => vreg tt_ok hF rfl ?_; simp only [go_sem, Int.reduceEq, Int.reduceNe, Int.reduceLT, Int.reduceLE, Nat.reduceEqDiff, Nat.reduceAdd, Nat.reduceMul, Nat.reduceLT, Nat.reduceLeDiff, Nat.reduceSub, reduceCtorEq, reduceIte, Int.reduceToNat, opV, opC]
      refine hNc _ (VWp.keep [2,3,4,5,6,7,16,56] [2,3,4,6] ?_); simp only [go_sem, Int.reduceEq, Int.reduceNe, Int.reduceLT, Int.reduceLE, Nat.reduceEqDiff, Nat.reduceAdd, Nat.reduceMul, Nat.reduceLT, Nat.reduceLeDiff, Nat.reduceSub, reduceCtorEq, reduceIte, Int.reduceToNat, opV, opC]
      refine vif rfl ⟨fun _ => ?_, fun hf => (by cases hf)⟩
      refine vreg tt_ok hF rfl ?_; simp only [go_sem, Int.reduceEq, Int.reduceNe, Int.reduceLT, Int.reduceLE, Nat.reduceEqDiff, Nat.reduceAdd, Nat.reduceMul, Nat.reduceLT, Nat.reduceLeDiff, Nat.reduceSub, reduceCtorEq, reduceIte, Int.reduceToNat, opV, opC]
      refine .inl ⟨_, rRemove_spec c (wordS o.which) h1 h2, ?_⟩; try simp only [go_sem, Int.reduceEq, Int.reduceNe, Int.reduceLT, Int.reduceLE, Nat.reduceEqDiff, Nat.reduceAdd, Nat.reduceMul, Nat.reduceLT, Nat.reduceLeDiff, Nat.reduceSub, reduceCtorEq, reduceIte, Int.reduceToNat, opV, opC]
      exact ⟨((removeC c (wordS o.which)).1, (removeC c (wordS o.which)).2), by rw [hst]; rfl, by simp⟩
    · refine vwp_seq_k fun Nb hNb => vreg tt_ok hF rfl ?_; simp only [go_sem, Int.reduceEq, Int.reduceNe, Int.reduceLT, Int.reduceLE, Nat.reduceEqDiff, Nat.reduceAdd, Nat.reduceMul, Nat.reduceLT, Nat.reduceLeDiff, Nat.reduceSub, reduceCtorEq, reduceIte, Int.reduceToNat, opV, opC]
      refine hNb _ (VWp.keep [2,3,4,5,6,7,16,45] [2,3,4,6] ?_); simp only [go_sem, Int.reduceEq, Int.reduceNe, Int.reduceLT, Int.reduceLE, Nat.reduceEqDiff, Nat.reduceAdd, Nat.reduceMul, Nat.reduceLT, Nat.reduceLeDiff, Nat.reduceSub, reduceCtorEq, reduceIte, Int.reduceToNat, opV, opC]
      refine vif rfl ⟨fun hf => (by cases hf), fun _ => ?_⟩
      refine vwp_seq_k fun Nc hNc => vreg tt_ok hF rfl ?_; simp only [go_sem, Int.reduceEq, Int.reduceNe, Int.reduceLT, Int.reduceLE, Nat.reduceEqDiff, Nat.reduceAdd, Nat.reduceMul, Nat.reduceLT, Nat.reduceLeDiff, Nat.reduceSub, reduceCtorEq, reduceIte, Int.reduceToNat, opV, opC]
      refine hNc _ (VWp.keep [2,3,4,5,6,7,16,56] [2,3,4,6] ?_); simp only [go_sem, Int.reduceEq, Int.reduceNe, Int.reduceLT, Int.reduceLE, Nat.reduceEqDiff, Nat.reduceAdd, Nat.reduceMul, Nat.reduceLT, Nat.reduceLeDiff, Nat.reduceSub, reduceCtorEq, reduceIte, Int.reduceToNat, opV, opC]
      refine vif rfl ⟨fun hf => (by cases hf), fun _ => ?_⟩
      refine vwp_seq_k fun Nd hNd => vreg tt_ok hF rfl ?_; simp only [go_sem, Int.reduceEq, Int.reduceNe, Int.reduceLT, Int.reduceLE, Nat.reduceEqDiff, Nat.reduceAdd, Nat.reduceMul, Nat.reduceLT, Nat.reduceLeDiff, Nat.reduceSub, reduceCtorEq, reduceIte, Int.reduceToNat, opV, opC]
      refine hNd _ (VWp.keep [2,3,4,5,6,7,16,64] [2,3,4,6] ?_); simp only [go_sem, Int.reduceEq, Int.reduceNe, Int.reduceLT, Int.reduceLE, Nat.reduceEqDiff, Nat.reduceAdd, Nat.reduceMul, Nat.reduceLT, Nat.reduceLeDiff, Nat.reduceSub, reduceCtorEq, reduceIte, Int.reduceToNat, opV, opC]
      refine vif rfl ⟨fun _ => ?_, fun hf => (by cases hf)⟩
      refine vreg tt_ok hF rfl ?_; simp only [go_sem, Int.reduceEq, Int.reduceNe, Int.reduceLT, Int.reduceLE, Nat.reduceEqDiff, Nat.reduceAdd, Nat.reduceMul, Nat.reduceLT, Nat.reduceLeDiff, Nat.reduceSub, reduceCtorEq, reduceIte, Int.reduceToNat, opV, opC, m4a, m4b]
      refine .inl ⟨_, rDefine_spec c (wordS o.which) (1 + o.n % 4) h1 h2 (wordS_le _), ?_⟩; try simp only [go_sem, Int.reduceEq, Int.reduceNe, Int.reduceLT, Int.reduceLE, Nat.reduceEqDiff, Nat.reduceAdd, Nat.reduceMul, Nat.reduceLT, Nat.reduceLeDiff, Nat.reduceSub, reduceCtorEq, reduceIte, Int.reduceToNat, opV, opC]
      exact ⟨((defineC c (wordS o.which) (1 + o.n % 4)).1, (defineC c (wordS o.which) (1 + o.n % 4)).2), by rw [hst]; rfl, by simp⟩
    · refine vwp_seq_k fun Nb hNb => vreg tt_ok hF rfl ?_; simp only [go_sem, Int.reduceEq, Int.reduceNe, Int.reduceLT, Int.reduceLE, Nat.reduceEqDiff, Nat.reduceAdd, Nat.reduceMul, Nat.reduceLT, Nat.reduceLeDiff, Nat.reduceSub, reduceCtorEq, reduceIte, Int.reduceToNat, opV, opC]
      refine hNb _ (VWp.keep [2,3,4,5,6,7,16,45] [2,3,4,6] ?_); simp only [go_sem, Int.reduceEq, Int.reduceNe, Int.reduceLT, Int.reduceLE, Nat.reduceEqDiff, Nat.reduceAdd, Nat.reduceMul, Nat.reduceLT, Nat.reduceLeDiff, Nat.reduceSub, reduceCtorEq, reduceIte, Int.reduceToNat, opV, opC]
      refine vif rfl ⟨fun hf => (by cases hf), fun _ => ?_⟩
      refine vwp_seq_k fun Nc hNc => vreg tt_ok hF rfl ?_; simp only [go_sem, Int.reduceEq, Int.reduceNe, Int.reduceLT, Int.reduceLE, Nat.reduceEqDiff, Nat.reduceAdd, Nat.reduceMul, Nat.reduceLT, Nat.reduceLeDiff, Nat.reduceSub, reduceCtorEq, reduceIte, Int.reduceToNat, opV, opC]
      refine hNc _ (VWp.keep [2,3,4,5,6,7,16,56] [2,3,4,6] ?_); simp only [go_sem, Int.reduceEq, Int.reduceNe, Int.reduceLT, Int.reduceLE, Nat.reduceEqDiff, Nat.reduceAdd, Nat.reduceMul, Nat.reduceLT, Nat.reduceLeDiff, Nat.reduceSub, reduceCtorEq, reduceIte, Int.reduceToNat, opV, opC]
      refine vif rfl ⟨fun hf => (by cases hf), fun _ => ?_⟩
      refine vwp_seq_k fun Nd hNd => vreg tt_ok hF rfl ?_; simp only [go_sem, Int.reduceEq, Int.reduceNe, Int.reduceLT, Int.reduceLE, Nat.reduceEqDiff, Nat.reduceAdd, Nat.reduceMul, Nat.reduceLT, Nat.reduceLeDiff, Nat.reduceSub, reduceCtorEq, reduceIte, Int.reduceToNat, opV, opC]
      refine hNd _ (VWp.keep [2,3,4,5,6,7,16,64] [2,3,4,6] ?_); simp only [go_sem, Int.reduceEq, Int.reduceNe, Int.reduceLT, Int.reduceLE, Nat.reduceEqDiff, Nat.reduceAdd, Nat.reduceMul, Nat.reduceLT, Nat.reduceLeDiff, Nat.reduceSub, reduceCtorEq, reduceIte, Int.reduceToNat, opV, opC]
      refine vif rfl ⟨fun hf => (by cases hf), fun _ => ?_⟩
      refine vwp_seq_k fun Ne hNe => vregd tt_ok mixed hF rfl (by kernel_rfl) (by kernel_rfl) ?_; simp only [go_sem, Int.reduceEq, Int.reduceNe, Int.reduceLT, Int.reduceLE, Nat.reduceEqDiff, Nat.reduceAdd, Nat.reduceMul, Nat.reduceLT, Nat.reduceLeDiff, Nat.reduceSub, reduceCtorEq, reduceIte, Int.reduceToNat, opV, opC, hw3, m5a, m5b]
      refine .inl ⟨_, Word_spec (o.which / 3 * 3) (by have := ho.w; omega), ?_⟩; try simp only [go_sem, Int.reduceEq, Int.reduceNe, Int.reduceLT, Int.reduceLE, Nat.reduceEqDiff, Nat.reduceAdd, Nat.reduceMul, Nat.reduceLT, Nat.reduceLeDiff, Nat.reduceSub, reduceCtorEq, reduceIte, Int.reduceToNat, opV, opC]
      refine .inl ⟨_, rResolve_spec c (wordS (o.which / 3 * 3)) (1 + o.n % 5) h1 h2 (wordS_le _) (by omega) (by omega), ?_⟩; try simp only [go_sem, Int.reduceEq, Int.reduceNe, Int.reduceLT, Int.reduceLE, Nat.reduceEqDiff, Nat.reduceAdd, Nat.reduceMul, Nat.reduceLT, Nat.reduceLeDiff, Nat.reduceSub, reduceCtorEq, reduceIte, Int.reduceToNat, opV, opC]
      refine hNe _ (VWp.keep [2,3,4,6,8,9] [2,3,4,6] ?_); simp only [go_sem, Int.reduceEq, Int.reduceNe, Int.reduceLT, Int.reduceLE, Nat.reduceEqDiff, Nat.reduceAdd, Nat.reduceMul, Nat.reduceLT, Nat.reduceLeDiff, Nat.reduceSub, reduceCtorEq, reduceIte, Int.reduceToNat, opV, opC]
      refine vwp_seq_k fun Ne hNe => ?_
      refine vwp_seq_k fun Nf hNf => vreg tt_ok hF rfl ?_; simp only [go_sem, Int.reduceEq, Int.reduceNe, Int.reduceLT, Int.reduceLE, Nat.reduceEqDiff, Nat.reduceAdd, Nat.reduceMul, Nat.reduceLT, Nat.reduceLeDiff, Nat.reduceSub, reduceCtorEq, reduceIte, Int.reduceToNat, opV, opC]
      refine hNf _ (VWp.keep [2,3,4,6,8,34] [2,3,4,6] ?_); simp only [go_sem, Int.reduceEq, Int.reduceNe, Int.reduceLT, Int.reduceLE, Nat.reduceEqDiff, Nat.reduceAdd, Nat.reduceMul, Nat.reduceLT, Nat.reduceLeDiff, Nat.reduceSub, reduceCtorEq, reduceIte, Int.reduceToNat, opV, opC]
      refine vif rfl ⟨fun ht => ?_, fun hf => ?_⟩
      · have hne : ¬ (resolveC c (wordS (o.which / 3 * 3)) (1 + o.n % 5)).2 = 0 := by simpa using ht
        have hst : stepC c o = c := by rw [hst]; exact if_neg hne
        refine vwp_seq_k fun Ng hNg => vreg tt_ok hF rfl ?_; simp only [go_sem, Int.reduceEq, Int.reduceNe, Int.reduceLT, Int.reduceLE, Nat.reduceEqDiff, Nat.reduceAdd, Nat.reduceMul, Nat.reduceLT, Nat.reduceLeDiff, Nat.reduceSub, reduceCtorEq, reduceIte, Int.reduceToNat, opV, opC]
        refine hNg _ (vwp_ret ?_)
        simp only [go_sem, Int.reduceEq, Int.reduceNe, Int.reduceLT, Int.reduceLE, Nat.reduceEqDiff, Nat.reduceAdd, Nat.reduceMul, Nat.reduceLT, Nat.reduceLeDiff, Nat.reduceSub, reduceCtorEq, reduceIte, Int.reduceToNat, opV, opC]
        rw [hst]
        exact LeV.refl _
      · have hne : (resolveC c (wordS (o.which / 3 * 3)) (1 + o.n % 5)).2 = 0 := by simpa using hf
        refine vwp_skip (hNe _ ?_)
        refine vregd tt_ok mixed hF rfl (by kernel_rfl) (by kernel_rfl) ?_; simp only [go_sem, Int.reduceEq, Int.reduceNe, Int.reduceLT, Int.reduceLE, Nat.reduceEqDiff, Nat.reduceAdd, Nat.reduceMul, Nat.reduceLT, Nat.reduceLeDiff, Nat.reduceSub, reduceCtorEq, reduceIte, Int.reduceToNat, opV, opC]
        refine .inl ⟨_, lentry_spec (resolveC c (wordS (o.which / 3 * 3)) (1 + o.n % 5)).1 o ho, ?_⟩; try simp only [go_sem, Int.reduceEq, Int.reduceNe, Int.reduceLT, Int.reduceLE, Nat.reduceEqDiff, Nat.reduceAdd, Nat.reduceMul, Nat.reduceLT, Nat.reduceLeDiff, Nat.reduceSub, reduceCtorEq, reduceIte, Int.reduceToNat, opV, opC]
        refine .inl ⟨_, rAdd_spec c (entS (resolveC c (wordS (o.which / 3 * 3)) (1 + o.n % 5)).1 o) h1 h2, ?_⟩; try simp only [go_sem, Int.reduceEq, Int.reduceNe, Int.reduceLT, Int.reduceLE, Nat.reduceEqDiff, Nat.reduceAdd, Nat.reduceMul, Nat.reduceLT, Nat.reduceLeDiff, Nat.reduceSub, reduceCtorEq, reduceIte, Int.reduceToNat, opV, opC]
        exact ⟨((addC c (entS (resolveC c (wordS (o.which / 3 * 3)) (1 + o.n % 5)).1 o)).1, (addC c (entS (resolveC c (wordS (o.which / 3 * 3)) (1 + o.n % 5)).1 o)).2.2), by rw [hst]; exact if_pos hne, by simp⟩
  · rintro ⟨d, k⟩ hz
    have hz : stepC c o = if k = 0 then d else c := hz
    refine vwp_seq_k fun N hN => ?_
    refine vwp_seq_k fun Na hNa => vreg tt_ok hF rfl ?_; simp only [go_sem, Int.reduceEq, Int.reduceNe, Int.reduceLT, Int.reduceLE, Nat.reduceEqDiff, Nat.reduceAdd, Nat.reduceMul, Nat.reduceLT, Nat.reduceLeDiff, Nat.reduceSub, reduceCtorEq, reduceIte, Int.reduceToNat, opV, opC]
    refine hNa _ (VWp.keep [2,4,6,79] [2,4,6] ?_); simp only [go_sem, Int.reduceEq, Int.reduceNe, Int.reduceLT, Int.reduceLE, Nat.reduceEqDiff, Nat.reduceAdd, Nat.reduceMul, Nat.reduceLT, Nat.reduceLeDiff, Nat.reduceSub, reduceCtorEq, reduceIte, Int.reduceToNat, opV, opC]
    refine vif rfl ⟨fun ht => ?_, fun hf => ?_⟩
    · have hz2 : stepC c o = c := by rw [hz, if_neg (show ¬ k = 0 by simpa using ht)]
      rw [hz2]
      refine vwp_seq_k fun Nb hNb => vreg tt_ok hF rfl ?_; simp only [go_sem, Int.reduceEq, Int.reduceNe, Int.reduceLT, Int.reduceLE, Nat.reduceEqDiff, Nat.reduceAdd, Nat.reduceMul, Nat.reduceLT, Nat.reduceLeDiff, Nat.reduceSub, reduceCtorEq, reduceIte, Int.reduceToNat, opV, opC]
      refine hNb _ (vwp_ret ?_)
      simp only [go_sem, Int.reduceEq, Int.reduceNe, Int.reduceLT, Int.reduceLE, Nat.reduceEqDiff, Nat.reduceAdd, Nat.reduceMul, Nat.reduceLT, Nat.reduceLeDiff, Nat.reduceSub, reduceCtorEq, reduceIte, Int.reduceToNat, opV, opC]
      exact LeV.refl _
    · have hz2 : stepC c o = d := by rw [hz, if_pos (show k = 0 by simpa using hf)]
      refine vwp_skip (hN _ ?_)
      refine vwp_seq_k fun Nb hNb => vreg tt_ok hF rfl ?_; simp only [go_sem, Int.reduceEq, Int.reduceNe, Int.reduceLT, Int.reduceLE, Nat.reduceEqDiff, Nat.reduceAdd, Nat.reduceMul, Nat.reduceLT, Nat.reduceLeDiff, Nat.reduceSub, reduceCtorEq, reduceIte, Int.reduceToNat, opV, opC]
      refine hNb _ (vwp_ret ?_)
      simp only [go_sem, Int.reduceEq, Int.reduceNe, Int.reduceLT, Int.reduceLE, Nat.reduceEqDiff, Nat.reduceAdd, Nat.reduceMul, Nat.reduceLT, Nat.reduceLeDiff, Nat.reduceSub, reduceCtorEq, reduceIte, Int.reduceToNat, opV, opC]
      rw [hz2]
      exact LeV.refl _

theorem foldl_take {α β : Type} (f : β → α → β) (b : β) (l : List α) (k : Nat) (x : α) (h : l[k]? = some x) : (l.take (k + 1)).foldl f b = f ((l.take k).foldl f b) x := by
  have hk := (List.getElem?_eq_some_iff.1 h).1
  rw [List.take_succ_eq_append_getElem hk, List.foldl_append, (List.getElem?_eq_some_iff.1 h).2]; rfl
def mk (l : List OpS) (k : Nat) : Cat := (l.take k).foldl stepC ⟨[], []⟩
theorem mk_ok (l : List OpS) (k : Nat) (hk : k ≤ 60) : (mk l k).es.length ≤ 1000000 ∧ (mk l k).gs.length ≤ 1000000 := by
  have h0 : okMake 0 ⟨[], []⟩ := ⟨by decide +kernel, by simp, by simp, by simp⟩
  have := okMake_fold (l.take k) 0 ⟨[], []⟩ h0
  have h2 := validC_all this.1
  unfold mk
  omega
set_option maxHeartbeats 4000000 in
set_option maxRecDepth 4000 in
theorem Make_spec (l : List OpS) (hl : ∀ o ∈ l, OpOk o) (hn : l.length ≤ 9223372036854775807) : Spec Tryz.prog 4 [.sl 5 (l.map opC)] (catV (makeS l)) := by
  refine spec_of tt_ok Tryz.func4 rfl (by decide) Tryz.ntmps4 (congrArg Array.toList Tryz.results4) (by simp) (by decide) rfl rfl (fun F hF => ?_)
  refine vwp_seq_k fun N hN => vreg tt_ok hF rfl ?_; simp only [go_sem, Int.reduceEq, Int.reduceNe, Int.reduceLT, Int.reduceLE, Nat.reduceEqDiff, Nat.reduceAdd, Nat.reduceMul, Nat.reduceLT, Nat.reduceLeDiff, Nat.reduceSub, reduceCtorEq, reduceIte, Int.reduceToNat, opV, opC]
  refine hN _ (VWp.keepR [0,2] [2] tt_ok hF rfl fun N hN => ?_); simp only [go_sem, Int.reduceEq, Int.reduceNe, Int.reduceLT, Int.reduceLE, Nat.reduceEqDiff, Nat.reduceAdd, Nat.reduceMul, Nat.reduceLT, Nat.reduceLeDiff, Nat.reduceSub, reduceCtorEq, reduceIte, Int.reduceToNat, opV, opC]
  refine hN _ (VWp.leB 3 31 [.nil, .nil] [.sl 4 [], .sl 2 []] rfl ⟨LeV.nil 4, LeV.nil 2, trivial⟩ rfl ?_)
  refine VWp.keep [0,2,3] [2,3] ?_; simp only [go_sem, Int.reduceEq, Int.reduceNe, Int.reduceLT, Int.reduceLE, Nat.reduceEqDiff, Nat.reduceAdd, Nat.reduceMul, Nat.reduceLT, Nat.reduceLeDiff, Nat.reduceSub, reduceCtorEq, reduceIte, Int.reduceToNat, opV, opC]
  refine vwp_seq_k fun N hN => ?_
  refine vwp_seq_k fun Na hNa => vreg tt_ok hF rfl ?_; simp only [go_sem, Int.reduceEq, Int.reduceNe, Int.reduceLT, Int.reduceLE, Nat.reduceEqDiff, Nat.reduceAdd, Nat.reduceMul, Nat.reduceLT, Nat.reduceLeDiff, Nat.reduceSub, reduceCtorEq, reduceIte, Int.reduceToNat, opV, opC]
  refine hNa _ (VWp.keep [0,2,3,4] [2,3] ?_); simp only [go_sem, Int.reduceEq, Int.reduceNe, Int.reduceLT, Int.reduceLE, Nat.reduceEqDiff, Nat.reduceAdd, Nat.reduceMul, Nat.reduceLT, Nat.reduceLeDiff, Nat.reduceSub, reduceCtorEq, reduceIte, Int.reduceToNat, opV, opC]
  refine vwp_block (vloop (fun k : Nat => [(0, .sl 5 (l.map opC)), (2, .ptr 2 0), (3, .ptr 3 0), (4, .int .i64 (k : Int))])
    (fun k => [(2, .box 31 [.nil, .nil]), (3, .box 31 [.sl 4 ((mk l k).es.map entC), .sl 2 ((mk l k).gs.map grpC)])])
    (fun k => k ≤ 60 ∧ k ≤ l.length) (fun k => 60 - k) 0 (by omega) (by simp only [go_sem, Int.reduceEq, Int.reduceNe, Int.reduceLT, Int.reduceLE, Nat.reduceEqDiff, Nat.reduceAdd, Nat.reduceMul, Nat.reduceLT, Nat.reduceLeDiff, Nat.reduceSub, reduceCtorEq, reduceIte, Int.reduceToNat, opV, opC, mk]; rfl) ?_)
  rintro k ⟨hk, hkl⟩
  refine vwp_seq_k fun Nb hNb => ?_
  refine vmeet (fun b : Bool => [(0, .sl 5 (l.map opC)), (2, .ptr 2 0), (3, .ptr 3 0), (4, .int .i64 (k : Int)), (13, .bool b)])
    (fun _ => [(2, .box 31 [.nil, .nil]), (3, .box 31 [.sl 4 ((mk l k).es.map entC), .sl 2 ((mk l k).gs.map grpC)])])
    (fun b => b = (decide (k < l.length) && decide (k < 60))) ?_ ?_
  · by_cases hq : k < l.length
    · have f1 : decide ((k : Int) < (l.length : Int)) = true := decide_eq_true (by omega)
      have f2 : decide ((k : Int) < 60) = decide (k < 60) := by apply decide_eq_decide.2; omega
      refine vreg tt_ok hF rfl ?_; simp only [go_sem, Int.reduceEq, Int.reduceNe, Int.reduceLT, Int.reduceLE, Nat.reduceEqDiff, Nat.reduceAdd, Nat.reduceMul, Nat.reduceLT, Nat.reduceLeDiff, Nat.reduceSub, reduceCtorEq, reduceIte, Int.reduceToNat, opV, opC, f1, f2]
      exact ⟨_, rfl, by simp [hq]⟩
    · have f1 : decide ((k : Int) < (l.length : Int)) = false := decide_eq_false (by omega)
      refine vreg tt_ok hF rfl ?_; simp only [go_sem, Int.reduceEq, Int.reduceNe, Int.reduceLT, Int.reduceLE, Nat.reduceEqDiff, Nat.reduceAdd, Nat.reduceMul, Nat.reduceLT, Nat.reduceLeDiff, Nat.reduceSub, reduceCtorEq, reduceIte, Int.reduceToNat, opV, opC, f1]
      exact ⟨_, rfl, by simp [hq]⟩
  intro b hb
  refine vif rfl ⟨fun ht => ?_, fun hf => ?_⟩
  · rw [ht] at hb
    have hb := Bool.and_eq_true_iff.1 hb.symm
    have hq : k < l.length := of_decide_eq_true hb.1
    have hq2 : k < 60 := of_decide_eq_true hb.2
    obtain ⟨x, hx⟩ : ∃ x, l[k]? = some x := ⟨_, List.getElem?_eq_getElem hq⟩
    have hrow : (l.map opC).getD k [] = [.int .u8 (x.kind : Int), .int .u8 (x.which : Int), .int .i64 (toI x.n), .int .i64 x.unit, .str x.serial] := getD_map l opC k x [] hx
    have hst : mk l (k + 1) = stepC (mk l k) x := foldl_take _ _ _ _ _ hx
    obtain ⟨g1, g2⟩ := mk_ok l k (by omega)
    refine vwp_skip (hNb _ ?_)
    refine vwp_seq_k fun Nd hNd => ?_
    refine vwp_block ?_
    refine vregd tt_ok mixed hF rfl (by kernel_rfl) (by kernel_rfl) ?_; simp only [go_sem, Int.reduceEq, Int.reduceNe, Int.reduceLT, Int.reduceLE, Nat.reduceEqDiff, Nat.reduceAdd, Nat.reduceMul, Nat.reduceLT, Nat.reduceLeDiff, Nat.reduceSub, reduceCtorEq, reduceIte, Int.reduceToNat, opV, opC]
    simp only [hrow, go_sem, Int.reduceEq, Int.reduceNe, Int.reduceLT, Int.reduceLE, Nat.reduceEqDiff, Nat.reduceAdd, Nat.reduceMul, Nat.reduceLT, Nat.reduceLeDiff, Nat.reduceSub, reduceCtorEq, reduceIte, Int.reduceToNat, opV, opC]
    refine ⟨⟨by omega, by omega⟩, ?_⟩
    refine .inl ⟨_, Do_spec (mk l k) x (hl x (List.mem_of_getElem? hx)) g1 g2, ?_⟩; try simp only [go_sem, Int.reduceEq, Int.reduceNe, Int.reduceLT, Int.reduceLE, Nat.reduceEqDiff, Nat.reduceAdd, Nat.reduceMul, Nat.reduceLT, Nat.reduceLeDiff, Nat.reduceSub, reduceCtorEq, reduceIte, Int.reduceToNat, opV, opC]
    refine hNd _ (VWp.keep [0,2,3,4] [2,3] ?_); simp only [go_sem, Int.reduceEq, Int.reduceNe, Int.reduceLT, Int.reduceLE, Nat.reduceEqDiff, Nat.reduceAdd, Nat.reduceMul, Nat.reduceLT, Nat.reduceLeDiff, Nat.reduceSub, reduceCtorEq, reduceIte, Int.reduceToNat, opV, opC]
    refine vreg tt_ok hF rfl ?_; simp only [go_sem, Int.reduceEq, Int.reduceNe, Int.reduceLT, Int.reduceLE, Nat.reduceEqDiff, Nat.reduceAdd, Nat.reduceMul, Nat.reduceLT, Nat.reduceLeDiff, Nat.reduceSub, reduceCtorEq, reduceIte, Int.reduceToNat, opV, opC]
    rw [wrap_i64 (by omega) (by omega)]
    exact ⟨k + 1, ⟨by omega, by omega⟩, by omega, by simp only [hst]; simp⟩
  · rw [hf] at hb
    have hmk : mk l k = makeS l := by
      unfold mk makeS
      by_cases hq : k < l.length
      · have : ¬ k < 60 := by intro h; simp [hq, h] at hb
        rw [show k = 60 by omega]
      · rw [List.take_of_length_le (by omega), List.take_of_length_le (by omega)]
    rw [hmk]
    refine vwp_exit ?_
    simp only [go_sem, Int.reduceEq, Int.reduceNe, Int.reduceLT, Int.reduceLE, Nat.reduceEqDiff, Nat.reduceAdd, Nat.reduceMul, Nat.reduceLT, Nat.reduceLeDiff, Nat.reduceSub, reduceCtorEq, reduceIte, Int.reduceToNat, opV, opC]
    refine hN _ (VWp.keepR [2,3] [2,3] tt_ok hF rfl fun Nb hNb => ?_); simp only [go_sem, Int.reduceEq, Int.reduceNe, Int.reduceLT, Int.reduceLE, Nat.reduceEqDiff, Nat.reduceAdd, Nat.reduceMul, Nat.reduceLT, Nat.reduceLeDiff, Nat.reduceSub, reduceCtorEq, reduceIte, Int.reduceToNat, opV, opC]
    refine hNb _ (vwp_ret ?_)
    simp only [go_sem, Int.reduceEq, Int.reduceNe, Int.reduceLT, Int.reduceLE, Nat.reduceEqDiff, Nat.reduceAdd, Nat.reduceMul, Nat.reduceLT, Nat.reduceLeDiff, Nat.reduceSub, reduceCtorEq, reduceIte, Int.reduceToNat, opV, opC]
    exact LeV.refl _
end Go.Proofs.YtldkmclfhjcicaaGreatDoor

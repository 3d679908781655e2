import Derived.Outline
import Derived.Test.YtldkmclfhjcicaaGreatDoorWC
/- The reference's Define. -/
namespace Go.Proofs.YtldkmclfhjcicaaGreatDoor
open Go.RowKit
set_option linter.unusedVariables false
set_option linter.unusedSimpArgs false
theorem wgS_len (e : Grp) (es : List Grp) (k : Nat) : (wgS e es k).length ≤ es.length + 1 := by
  unfold wgS
  have : (es.take k).length ≤ es.length := by simp; omega
  split
  · rw [length_insG]; omega
  · omega
theorem defineC_1 {c : Cat} {s : Bs} {l : Int} (h : (validC c && grpOk ⟨s, l⟩) = false) : defineC c s l = (⟨[], []⟩, 1) := by unfold defineC; rw [h]; rfl
theorem defineC_4 {c : Cat} {s : Bs} {l : Int} (h : (validC c && grpOk ⟨s, l⟩) = true) (hn : s ∈ namesS c.es ∨ s ∈ basesS c.gs) : defineC c s l = (⟨[], []⟩, 4) := by unfold defineC; rw [h, if_neg (by simp), if_pos hn]
theorem defineC_6 {c : Cat} {s : Bs} {l : Int} (h : (validC c && grpOk ⟨s, l⟩) = true) (hn : ¬ (s ∈ namesS c.es ∨ s ∈ basesS c.gs)) (h6 : ((gensS c.es s).length : Int) > l) : defineC c s l = (⟨[], []⟩, 6) := by unfold defineC; rw [h, if_neg (by simp), if_neg hn, if_pos h6]
theorem defineC_7 {c : Cat} {s : Bs} {l : Int} (h : (validC c && grpOk ⟨s, l⟩) = true) (hn : ¬ (s ∈ namesS c.es ∨ s ∈ basesS c.gs)) (h6 : ¬ ((gensS c.es s).length : Int) > l) (h7 : c.gs.length ≥ 32) : defineC c s l = (⟨[], []⟩, 7) := by
  unfold defineC; rw [h, if_neg (by simp), if_neg hn, if_neg h6, if_pos h7]
theorem defineC_0 {c : Cat} {s : Bs} {l : Int} (h : (validC c && grpOk ⟨s, l⟩) = true) (hn : ¬ (s ∈ namesS c.es ∨ s ∈ basesS c.gs)) (h6 : ¬ ((gensS c.es s).length : Int) > l) (h7 : ¬ c.gs.length ≥ 32) : defineC c s l = (⟨c.es, insG ⟨s, l⟩ c.gs⟩, 0) := by
  unfold defineC; rw [h, if_neg (by simp), if_neg hn, if_neg h6, if_neg h7]

set_option maxHeartbeats 4000000 in
set_option maxRecDepth 4000 in
theorem rDefine_spec (c : Cat) (s : Bs) (l : Int) (h1 : c.es.length ≤ 1000000) (h2 : c.gs.length ≤ 1000000) (hs : s.length ≤ 1000000) : Spec Tryz.prog 30 [catV c, .str s, .int .i64 l] (.tup [catV (defineC c s l).1, .int .i64 (defineC c s l).2]) := by
  refine spec_of tt_ok Tryz.func30 rfl (by decide) Tryz.ntmps30 (congrArg Array.toList Tryz.results30) (by simp) (by decide) rfl rfl (fun F hF => ?_)
  refine vwp_seq_k fun N hN => vreg tt_ok hF rfl ?_; simp only [go_sem, Int.reduceEq, Int.reduceNe, Int.reduceLT, Int.reduceLE, Nat.reduceEqDiff, Nat.reduceAdd, Nat.reduceMul, Nat.reduceLT, Nat.reduceLeDiff, Nat.reduceSub, reduceCtorEq, reduceIte, Int.reduceToNat]
  refine hN _ (VWp.keepR [1,2,3,6,7] [3,6] tt_ok hF rfl fun N hN => ?_); simp only [go_sem, Int.reduceEq, Int.reduceNe, Int.reduceLT, Int.reduceLE, Nat.reduceEqDiff, Nat.reduceAdd, Nat.reduceMul, Nat.reduceLT, Nat.reduceLeDiff, Nat.reduceSub, reduceCtorEq, reduceIte, Int.reduceToNat]
  refine hN _ (VWp.keep [1,2,3,6,7,8] [3,6,8] ?_); simp only [go_sem, Int.reduceEq, Int.reduceNe, Int.reduceLT, Int.reduceLE, Nat.reduceEqDiff, Nat.reduceAdd, Nat.reduceMul, Nat.reduceLT, Nat.reduceLeDiff, Nat.reduceSub, reduceCtorEq, reduceIte, Int.reduceToNat]
  refine vwp_seq_k fun N hN => ?_
  refine vmeet (fun b : Bool => [(1, .str s), (2, .int .i64 l), (3, .ptr 3 0), (6, .ptr 6 0), (8, .ptr 8 0), (22, .bool (!b))]) (fun _ => [(3, .box 31 [.sl 4 (c.es.map entC), .sl 2 (c.gs.map grpC)]), (6, .box 31 [.nil, .nil]), (8, .box 47 [.str s, .int .i64 l])]) (fun b => (validC c && grpOk ⟨s, l⟩) = b) ?_ ?_
  · cases hv : validC c with
    | false =>
      refine vreg tt_ok hF rfl ?_; simp only [go_sem, Int.reduceEq, Int.reduceNe, Int.reduceLT, Int.reduceLE, Nat.reduceEqDiff, Nat.reduceAdd, Nat.reduceMul, Nat.reduceLT, Nat.reduceLeDiff, Nat.reduceSub, reduceCtorEq, reduceIte, Int.reduceToNat]
      refine .inl ⟨_, hv ▸ Valid_spec c h1 h2, ?_⟩
      simp only [go_sem, Int.reduceEq, Int.reduceNe, Int.reduceLT, Int.reduceLE, Nat.reduceEqDiff, Nat.reduceAdd, Nat.reduceMul, Nat.reduceLT, Nat.reduceLeDiff, Nat.reduceSub, reduceCtorEq, reduceIte, Int.reduceToNat]
      exact ⟨false, by simp, by simp⟩
    | true =>
      refine vreg tt_ok hF rfl ?_; simp only [go_sem, Int.reduceEq, Int.reduceNe, Int.reduceLT, Int.reduceLE, Nat.reduceEqDiff, Nat.reduceAdd, Nat.reduceMul, Nat.reduceLT, Nat.reduceLeDiff, Nat.reduceSub, reduceCtorEq, reduceIte, Int.reduceToNat]
      refine .inl ⟨_, hv ▸ Valid_spec c h1 h2, ?_⟩
      simp only [go_sem, Int.reduceEq, Int.reduceNe, Int.reduceLT, Int.reduceLE, Nat.reduceEqDiff, Nat.reduceAdd, Nat.reduceMul, Nat.reduceLT, Nat.reduceLeDiff, Nat.reduceSub, reduceCtorEq, reduceIte, Int.reduceToNat]
      refine .inl ⟨_, group_spec ⟨s, l⟩, ?_⟩
      simp only [go_sem, Int.reduceEq, Int.reduceNe, Int.reduceLT, Int.reduceLE, Nat.reduceEqDiff, Nat.reduceAdd, Nat.reduceMul, Nat.reduceLT, Nat.reduceLeDiff, Nat.reduceSub, reduceCtorEq, reduceIte, Int.reduceToNat]
      exact ⟨grpOk ⟨s, l⟩, by simp, by simp⟩
  intro b hb
  cases b with
  | false =>
    refine vif rfl ⟨fun ht => ?_, fun hf => (by cases hf)⟩
    refine vwp_seq_k fun Nb hNb => vreg tt_ok hF rfl ?_; simp only [go_sem, Int.reduceEq, Int.reduceNe, Int.reduceLT, Int.reduceLE, Nat.reduceEqDiff, Nat.reduceAdd, Nat.reduceMul, Nat.reduceLT, Nat.reduceLeDiff, Nat.reduceSub, reduceCtorEq, reduceIte, Int.reduceToNat]
    refine hNb _ (vwp_ret ?_)
    simp only [go_sem, Int.reduceEq, Int.reduceNe, Int.reduceLT, Int.reduceLE, Nat.reduceEqDiff, Nat.reduceAdd, Nat.reduceMul, Nat.reduceLT, Nat.reduceLeDiff, Nat.reduceSub, reduceCtorEq, reduceIte, Int.reduceToNat]
    rw [defineC_1 hb]
    exact le_bad _ rfl
  | true =>
    refine vif rfl ⟨fun hf => (by cases hf), fun _ => ?_⟩
    obtain ⟨hv, hg⟩ := Bool.and_eq_true_iff.1 hb
    refine vwp_skip (hN _ ?_)
    refine vwp_seq_k fun N hN => ?_
    refine vmeet (fun b : Bool => [(1, .str s), (2, .int .i64 l), (3, .ptr 3 0), (6, .ptr 6 0), (8, .ptr 8 0), (33, .bool b)]) (fun _ => [(3, .box 31 [.sl 4 (c.es.map entC), .sl 2 (c.gs.map grpC)]), (6, .box 31 [.nil, .nil]), (8, .box 47 [.str s, .int .i64 l])]) (fun b => decide (s ∈ namesS c.es ∨ s ∈ basesS c.gs) = b) ?_ ?_
    · by_cases hm : s ∈ basesS c.gs
      · have fm : decide (0 ≤ fIdx (basesS c.gs) s) = true := decide_eq_true ((fIdx_nonneg _ _).2 hm)
        refine vreg tt_ok hF rfl ?_; simp only [go_sem, Int.reduceEq, Int.reduceNe, Int.reduceLT, Int.reduceLE, Nat.reduceEqDiff, Nat.reduceAdd, Nat.reduceMul, Nat.reduceLT, Nat.reduceLeDiff, Nat.reduceSub, reduceCtorEq, reduceIte, Int.reduceToNat]
        refine .inl ⟨_, base_spec c s h2, ?_⟩
        simp only [go_sem, Int.reduceEq, Int.reduceNe, Int.reduceLT, Int.reduceLE, Nat.reduceEqDiff, Nat.reduceAdd, Nat.reduceMul, Nat.reduceLT, Nat.reduceLeDiff, Nat.reduceSub, reduceCtorEq, reduceIte, Int.reduceToNat, fm]
        exact ⟨true, by simp [hm], by simp⟩
      · have fm : decide (0 ≤ fIdx (basesS c.gs) s) = false := decide_eq_false (fun h => hm ((fIdx_nonneg _ _).1 h))
        have fe : decide (0 ≤ fIdx (namesS c.es) s) = decide (s ∈ namesS c.es) := by simp [fIdx_nonneg]
        refine vreg tt_ok hF rfl ?_; simp only [go_sem, Int.reduceEq, Int.reduceNe, Int.reduceLT, Int.reduceLE, Nat.reduceEqDiff, Nat.reduceAdd, Nat.reduceMul, Nat.reduceLT, Nat.reduceLeDiff, Nat.reduceSub, reduceCtorEq, reduceIte, Int.reduceToNat]
        refine .inl ⟨_, base_spec c s h2, ?_⟩
        simp only [go_sem, Int.reduceEq, Int.reduceNe, Int.reduceLT, Int.reduceLE, Nat.reduceEqDiff, Nat.reduceAdd, Nat.reduceMul, Nat.reduceLT, Nat.reduceLeDiff, Nat.reduceSub, reduceCtorEq, reduceIte, Int.reduceToNat, fm]
        refine .inl ⟨_, find_spec c s h1, ?_⟩
        simp only [go_sem, Int.reduceEq, Int.reduceNe, Int.reduceLT, Int.reduceLE, Nat.reduceEqDiff, Nat.reduceAdd, Nat.reduceMul, Nat.reduceLT, Nat.reduceLeDiff, Nat.reduceSub, reduceCtorEq, reduceIte, Int.reduceToNat, fe]
        exact ⟨decide (s ∈ namesS c.es), by simp [hm], by simp⟩
    intro b hb4
    cases b with
    | true =>
      refine vif rfl ⟨fun ht => ?_, fun hf => (by cases hf)⟩
      refine vwp_seq_k fun Nb hNb => vreg tt_ok hF rfl ?_; simp only [go_sem, Int.reduceEq, Int.reduceNe, Int.reduceLT, Int.reduceLE, Nat.reduceEqDiff, Nat.reduceAdd, Nat.reduceMul, Nat.reduceLT, Nat.reduceLeDiff, Nat.reduceSub, reduceCtorEq, reduceIte, Int.reduceToNat]
      refine hNb _ (vwp_ret ?_)
      simp only [go_sem, Int.reduceEq, Int.reduceNe, Int.reduceLT, Int.reduceLE, Nat.reduceEqDiff, Nat.reduceAdd, Nat.reduceMul, Nat.reduceLT, Nat.reduceLeDiff, Nat.reduceSub, reduceCtorEq, reduceIte, Int.reduceToNat]
      rw [defineC_4 hb (of_decide_eq_true hb4)]
      exact le_bad _ rfl
    | false =>
      have hn : ¬ (s ∈ namesS c.es ∨ s ∈ basesS c.gs) := of_decide_eq_false hb4
      refine vif rfl ⟨fun hf => (by cases hf), fun _ => ?_⟩
      refine vwp_skip (hN _ ?_)
      refine vwp_seq_k fun N hN => ?_
      refine vwp_seq_k fun Na hNa => vreg tt_ok hF rfl ?_; simp only [go_sem, Int.reduceEq, Int.reduceNe, Int.reduceLT, Int.reduceLE, Nat.reduceEqDiff, Nat.reduceAdd, Nat.reduceMul, Nat.reduceLT, Nat.reduceLeDiff, Nat.reduceSub, reduceCtorEq, reduceIte, Int.reduceToNat]
      refine .inl ⟨_, numbers_spec c s h1 hs, ?_⟩; try simp only [go_sem, Int.reduceEq, Int.reduceNe, Int.reduceLT, Int.reduceLE, Nat.reduceEqDiff, Nat.reduceAdd, Nat.reduceMul, Nat.reduceLT, Nat.reduceLeDiff, Nat.reduceSub, reduceCtorEq, reduceIte, Int.reduceToNat]
      simp only [go_sem, Int.reduceEq, Int.reduceNe, Int.reduceLT, Int.reduceLE, Nat.reduceEqDiff, Nat.reduceAdd, Nat.reduceMul, Nat.reduceLT, Nat.reduceLeDiff, Nat.reduceSub, reduceCtorEq, reduceIte, Int.reduceToNat, intsV, nums_len]
      refine hNa _ (VWp.keep [1,2,3,6,8,40] [3,6,8] ?_); simp only [go_sem, Int.reduceEq, Int.reduceNe, Int.reduceLT, Int.reduceLE, Nat.reduceEqDiff, Nat.reduceAdd, Nat.reduceMul, Nat.reduceLT, Nat.reduceLeDiff, Nat.reduceSub, reduceCtorEq, reduceIte, Int.reduceToNat]
      refine vif rfl ⟨fun ht => ?_, fun hf => ?_⟩
      · have h6 := of_decide_eq_true ht
        refine vwp_seq_k fun Nb hNb => vreg tt_ok hF rfl ?_; simp only [go_sem, Int.reduceEq, Int.reduceNe, Int.reduceLT, Int.reduceLE, Nat.reduceEqDiff, Nat.reduceAdd, Nat.reduceMul, Nat.reduceLT, Nat.reduceLeDiff, Nat.reduceSub, reduceCtorEq, reduceIte, Int.reduceToNat]
        refine hNb _ (vwp_ret ?_)
        simp only [go_sem, Int.reduceEq, Int.reduceNe, Int.reduceLT, Int.reduceLE, Nat.reduceEqDiff, Nat.reduceAdd, Nat.reduceMul, Nat.reduceLT, Nat.reduceLeDiff, Nat.reduceSub, reduceCtorEq, reduceIte, Int.reduceToNat]
        rw [defineC_6 hb hn h6]
        exact le_bad _ rfl
      have h6 := of_decide_eq_false hf
      refine vwp_skip (hN _ ?_)
      refine vwp_seq_k fun N hN => ?_
      refine vwp_seq_k fun Na hNa => vreg tt_ok hF rfl ?_; simp only [go_sem, Int.reduceEq, Int.reduceNe, Int.reduceLT, Int.reduceLE, Nat.reduceEqDiff, Nat.reduceAdd, Nat.reduceMul, Nat.reduceLT, Nat.reduceLeDiff, Nat.reduceSub, reduceCtorEq, reduceIte, Int.reduceToNat]
      refine hNa _ (VWp.keep [1,2,3,6,8,45] [3,6,8] ?_); simp only [go_sem, Int.reduceEq, Int.reduceNe, Int.reduceLT, Int.reduceLE, Nat.reduceEqDiff, Nat.reduceAdd, Nat.reduceMul, Nat.reduceLT, Nat.reduceLeDiff, Nat.reduceSub, reduceCtorEq, reduceIte, Int.reduceToNat]
      refine vif rfl ⟨fun ht => ?_, fun hf => ?_⟩
      · have h7 := of_decide_eq_true ht
        refine vwp_seq_k fun Nb hNb => vreg tt_ok hF rfl ?_; simp only [go_sem, Int.reduceEq, Int.reduceNe, Int.reduceLT, Int.reduceLE, Nat.reduceEqDiff, Nat.reduceAdd, Nat.reduceMul, Nat.reduceLT, Nat.reduceLeDiff, Nat.reduceSub, reduceCtorEq, reduceIte, Int.reduceToNat]
        refine hNb _ (vwp_ret ?_)
        simp only [go_sem, Int.reduceEq, Int.reduceNe, Int.reduceLT, Int.reduceLE, Nat.reduceEqDiff, Nat.reduceAdd, Nat.reduceMul, Nat.reduceLT, Nat.reduceLeDiff, Nat.reduceSub, reduceCtorEq, reduceIte, Int.reduceToNat]
        rw [defineC_7 hb hn h6 (by omega)]
        exact le_bad _ rfl
      have h7 := of_decide_eq_false hf
      refine vwp_skip (hN _ ?_)
      rw [defineC_0 hb hn h6 (by omega)]
      refine vwp_seq_k fun N hN => vreg tt_ok hF rfl ?_; simp only [go_sem, Int.reduceEq, Int.reduceNe, Int.reduceLT, Int.reduceLE, Nat.reduceEqDiff, Nat.reduceAdd, Nat.reduceMul, Nat.reduceLT, Nat.reduceLeDiff, Nat.reduceSub, reduceCtorEq, reduceIte, Int.reduceToNat]
      refine ⟨by omega, ?_⟩
      refine hN _ (VWp.keepR [1,2,3,6,8,9] [3,6,8,9,47] tt_ok hF rfl fun N hN => ?_); simp only [go_sem, Int.reduceEq, Int.reduceNe, Int.reduceLT, Int.reduceLE, Nat.reduceEqDiff, Nat.reduceAdd, Nat.reduceMul, Nat.reduceLT, Nat.reduceLeDiff, Nat.reduceSub, reduceCtorEq, reduceIte, Int.reduceToNat]
      refine hN _ (VWp.keep [1,2,3,6,8,9,10] [3,6,8,9,47] ?_); simp only [go_sem, Int.reduceEq, Int.reduceNe, Int.reduceLT, Int.reduceLE, Nat.reduceEqDiff, Nat.reduceAdd, Nat.reduceMul, Nat.reduceLT, Nat.reduceLeDiff, Nat.reduceSub, reduceCtorEq, reduceIte, Int.reduceToNat]
      refine vwp_seq_k fun N hN => ?_
      refine vwp_seq_k fun Na hNa => vreg tt_ok hF rfl ?_; simp only [go_sem, Int.reduceEq, Int.reduceNe, Int.reduceLT, Int.reduceLE, Nat.reduceEqDiff, Nat.reduceAdd, Nat.reduceMul, Nat.reduceLT, Nat.reduceLeDiff, Nat.reduceSub, reduceCtorEq, reduceIte, Int.reduceToNat]
      refine hNa _ (VWp.keep [1,2,3,6,8,9,10,11] [3,6,8,9,47] ?_); simp only [go_sem, Int.reduceEq, Int.reduceNe, Int.reduceLT, Int.reduceLE, Nat.reduceEqDiff, Nat.reduceAdd, Nat.reduceMul, Nat.reduceLT, Nat.reduceLeDiff, Nat.reduceSub, reduceCtorEq, reduceIte, Int.reduceToNat]
      refine VWp.adoptB 30 2 47 (o := 9) (i := 1) rfl rfl rfl (by decide) ?_
      refine VWp.keep [1,2,3,6,8,9,10,11] [3,6,8,9,47,30] ?_; simp only [go_sem, Int.reduceEq, Int.reduceNe, Int.reduceLT, Int.reduceLE, Nat.reduceEqDiff, Nat.reduceAdd, Nat.reduceMul, Nat.reduceLT, Nat.reduceLeDiff, Nat.reduceSub, reduceCtorEq, reduceIte, Int.reduceToNat]
      obtain ⟨e, he⟩ : ∃ e : Grp, (⟨s, l⟩ : Grp) = e := ⟨_, rfl⟩
      refine vwp_block (vloop (fun k : Nat => [(1, .str s), (2, .int .i64 l), (3, .ptr 3 0), (6, .ptr 6 0), (8, .ptr 8 0), (9, .ptr 9 0), (10, .bool (wgD ⟨s, l⟩ c.gs k)), (11, .int .i64 (k : Int))])
        (fun k => [(3, .box 31 [.sl 4 (c.es.map entC), .sl 2 (c.gs.map grpC)]), (6, .box 31 [.nil, .nil]), (8, .box 47 [.str s, .int .i64 l]), (9, .box 31 [.own 47 c.es.length, .own 30 (wgS ⟨s, l⟩ c.gs k).length]), (47, .arr 4 45 (c.es.map entC)), (30, .arr 2 47 ((wgS ⟨s, l⟩ c.gs k).map grpC))])
        (fun k => k ≤ c.gs.length) (fun k => c.gs.length - k) 0 (by omega) (by simp only [go_sem, Int.reduceEq, Int.reduceNe, Int.reduceLT, Int.reduceLE, Nat.reduceEqDiff, Nat.reduceAdd, Nat.reduceMul, Nat.reduceLT, Nat.reduceLeDiff, Nat.reduceSub, reduceCtorEq, reduceIte, Int.reduceToNat]; simp [wgD_zero, wgS_zero]) ?_)
      intro k hk
      refine vwp_seq_k fun Nb hNb => ?_
      refine vwp_seq_k fun Nc hNc => vreg tt_ok hF rfl ?_; simp only [go_sem, Int.reduceEq, Int.reduceNe, Int.reduceLT, Int.reduceLE, Nat.reduceEqDiff, Nat.reduceAdd, Nat.reduceMul, Nat.reduceLT, Nat.reduceLeDiff, Nat.reduceSub, reduceCtorEq, reduceIte, Int.reduceToNat]
      refine hNc _ (VWp.keep [1,2,3,6,8,9,10,11,56] [3,6,8,9,47,30] ?_); simp only [go_sem, Int.reduceEq, Int.reduceNe, Int.reduceLT, Int.reduceLE, Nat.reduceEqDiff, Nat.reduceAdd, Nat.reduceMul, Nat.reduceLT, Nat.reduceLeDiff, Nat.reduceSub, reduceCtorEq, reduceIte, Int.reduceToNat]
      refine vif rfl ⟨fun ht => ?_, fun hf => ?_⟩
      · have hlt : k < c.gs.length := by simpa using ht
        obtain ⟨x, hx⟩ : ∃ x, c.gs[k]? = some x := ⟨_, List.getElem?_eq_getElem hlt⟩
        have hxe : c.gs.getD k default = x := by simp [hx]
        have hrow : (c.gs.map grpC).getD k [] = [.str x.base, .int .i64 x.limit] := getD_map c.gs grpC k x [] hx
        refine vwp_skip (hNb _ ?_)
        refine vwp_seq_k fun Nd hNd => ?_
        refine vwp_block ?_
        refine vmeet (fun z : List Grp × Bool => [(1, .str s), (2, .int .i64 l), (3, .ptr 3 0), (6, .ptr 6 0), (8, .ptr 8 0), (9, .ptr 9 0), (10, .bool z.2), (11, .int .i64 (k : Int))])
          (fun z => [(3, .box 31 [.sl 4 (c.es.map entC), .sl 2 (c.gs.map grpC)]), (6, .box 31 [.nil, .nil]), (8, .box 47 [.str s, .int .i64 l]), (9, .box 31 [.own 47 c.es.length, .own 30 z.1.length]), (47, .arr 4 45 (c.es.map entC)), (30, .arr 2 47 (z.1.map grpC))])
          (fun z => z.1.length ≤ 1000002 ∧ z.1 ++ [x] = wgS ⟨s, l⟩ c.gs (k + 1) ∧ z.2 = wgD ⟨s, l⟩ c.gs (k + 1)) ?_ ?_
        · refine vwp_seq_k fun Nf hNf => ?_
          have hwl : (wgS ⟨s, l⟩ c.gs k).length ≤ 1000001 := Nat.le_trans (wgS_len ⟨s, l⟩ c.gs k) (by omega)
          cases hd : wgD ⟨s, l⟩ c.gs k with
          | true =>
            refine vreg tt_ok hF rfl ?_; simp only [go_sem, Int.reduceEq, Int.reduceNe, Int.reduceLT, Int.reduceLE, Nat.reduceEqDiff, Nat.reduceAdd, Nat.reduceMul, Nat.reduceLT, Nat.reduceLeDiff, Nat.reduceSub, reduceCtorEq, reduceIte, Int.reduceToNat]
            refine hNf _ (VWp.keep [1,2,3,6,8,9,10,11,70] [3,6,8,9,47,30] ?_); simp only [go_sem, Int.reduceEq, Int.reduceNe, Int.reduceLT, Int.reduceLE, Nat.reduceEqDiff, Nat.reduceAdd, Nat.reduceMul, Nat.reduceLT, Nat.reduceLeDiff, Nat.reduceSub, reduceCtorEq, reduceIte, Int.reduceToNat]
            refine vif rfl ⟨fun ht => (by cases ht), fun _ => ?_⟩
            refine vwp_skip ⟨(wgS ⟨s, l⟩ c.gs k, true), ⟨Nat.le_succ_of_le hwl, ?_, ?_⟩, ?_⟩
            · rw [wgS_old hlt (.inl hd), hxe]
            · rw [wgD_step hlt, hd]; rfl
            · simp only [go_sem, Int.reduceEq, Int.reduceNe, Int.reduceLT, Int.reduceLE, Nat.reduceEqDiff, Nat.reduceAdd, Nat.reduceMul, Nat.reduceLT, Nat.reduceLeDiff, Nat.reduceSub, reduceCtorEq, reduceIte, Int.reduceToNat]
          | false =>
            refine vreg tt_ok hF rfl ?_; simp only [go_sem, Int.reduceEq, Int.reduceNe, Int.reduceLT, Int.reduceLE, Nat.reduceEqDiff, Nat.reduceAdd, Nat.reduceMul, Nat.reduceLT, Nat.reduceLeDiff, Nat.reduceSub, reduceCtorEq, reduceIte, Int.reduceToNat]
            simp only [hrow, go_sem, Int.reduceEq, Int.reduceNe, Int.reduceLT, Int.reduceLE, Nat.reduceEqDiff, Nat.reduceAdd, Nat.reduceMul, Nat.reduceLT, Nat.reduceLeDiff, Nat.reduceSub, reduceCtorEq, reduceIte, Int.reduceToNat]
            refine ⟨⟨by omega, by omega⟩, ?_⟩
            refine hNf _ (VWp.keep [1,2,3,6,8,9,10,11,70] [3,6,8,9,47,30] ?_); simp only [go_sem, Int.reduceEq, Int.reduceNe, Int.reduceLT, Int.reduceLE, Nat.reduceEqDiff, Nat.reduceAdd, Nat.reduceMul, Nat.reduceLT, Nat.reduceLeDiff, Nat.reduceSub, reduceCtorEq, reduceIte, Int.reduceToNat]
            rw [bytesLess_eq]
            refine vif rfl ⟨fun ht => ?_, fun hf => ?_⟩
            · have hlt2 : s < x.base := of_decide_eq_true ht
              refine vwp_seq_k fun Nh hNh => vreg tt_ok hF rfl ?_; simp only [go_sem, Int.reduceEq, Int.reduceNe, Int.reduceLT, Int.reduceLE, Nat.reduceEqDiff, Nat.reduceAdd, Nat.reduceMul, Nat.reduceLT, Nat.reduceLeDiff, Nat.reduceSub, reduceCtorEq, reduceIte, Int.reduceToNat]
              refine ⟨by omega, ?_⟩
              simp only [grp_snoc (wgS ⟨s, l⟩ c.gs k) ⟨s, l⟩, go_sem, Int.reduceEq, Int.reduceNe, Int.reduceLT, Int.reduceLE, Nat.reduceEqDiff, Nat.reduceAdd, Nat.reduceMul, Nat.reduceLT, Nat.reduceLeDiff, Nat.reduceSub, reduceCtorEq, reduceIte, Int.reduceToNat]
              refine hNh _ (VWp.keep [1,2,3,6,8,9,10,11] [3,6,8,9,47,30] ?_); simp only [go_sem, Int.reduceEq, Int.reduceNe, Int.reduceLT, Int.reduceLE, Nat.reduceEqDiff, Nat.reduceAdd, Nat.reduceMul, Nat.reduceLT, Nat.reduceLeDiff, Nat.reduceSub, reduceCtorEq, reduceIte, Int.reduceToNat]
              refine vreg tt_ok hF rfl ?_; simp only [go_sem, Int.reduceEq, Int.reduceNe, Int.reduceLT, Int.reduceLE, Nat.reduceEqDiff, Nat.reduceAdd, Nat.reduceMul, Nat.reduceLT, Nat.reduceLeDiff, Nat.reduceSub, reduceCtorEq, reduceIte, Int.reduceToNat]
              refine ⟨(wgS ⟨s, l⟩ c.gs k ++ [⟨s, l⟩], true), ⟨by have := wgS_len ⟨s, l⟩ c.gs k; simp; omega, ?_, ?_⟩, ?_⟩
              · rw [wgS_new hlt hd (by rw [hxe]; exact hlt2), hxe]
              · rw [wgD_step hlt, hd, hxe, decide_eq_true hlt2]; rfl
              · simp only [go_sem, Int.reduceEq, Int.reduceNe, Int.reduceLT, Int.reduceLE, Nat.reduceEqDiff, Nat.reduceAdd, Nat.reduceMul, Nat.reduceLT, Nat.reduceLeDiff, Nat.reduceSub, reduceCtorEq, reduceIte, Int.reduceToNat]
            · have hlt2 : ¬ s < x.base := of_decide_eq_false hf
              refine vwp_skip ⟨(wgS ⟨s, l⟩ c.gs k, false), ⟨Nat.le_succ_of_le hwl, ?_, ?_⟩, ?_⟩
              · rw [wgS_old hlt (.inr (by rw [hxe]; exact hlt2)), hxe]
              · rw [wgD_step hlt, hd, hxe, decide_eq_false hlt2]; rfl
              · simp only [go_sem, Int.reduceEq, Int.reduceNe, Int.reduceLT, Int.reduceLE, Nat.reduceEqDiff, Nat.reduceAdd, Nat.reduceMul, Nat.reduceLT, Nat.reduceLeDiff, Nat.reduceSub, reduceCtorEq, reduceIte, Int.reduceToNat]
        · rintro ⟨L, d⟩ ⟨hL, hLx, hd⟩
          refine vregd tt_ok mixed hF rfl (by kernel_rfl) (by kernel_rfl) ?_; simp only [go_sem, Int.reduceEq, Int.reduceNe, Int.reduceLT, Int.reduceLE, Nat.reduceEqDiff, Nat.reduceAdd, Nat.reduceMul, Nat.reduceLT, Nat.reduceLeDiff, Nat.reduceSub, reduceCtorEq, reduceIte, Int.reduceToNat]
          simp only [hrow, go_sem, Int.reduceEq, Int.reduceNe, Int.reduceLT, Int.reduceLE, Nat.reduceEqDiff, Nat.reduceAdd, Nat.reduceMul, Nat.reduceLT, Nat.reduceLeDiff, Nat.reduceSub, reduceCtorEq, reduceIte, Int.reduceToNat]
          have hL : L.length ≤ 1000002 := hL
          refine ⟨⟨by omega, by omega⟩, by omega, ?_⟩
          simp only [grp_snoc, go_sem, Int.reduceEq, Int.reduceNe, Int.reduceLT, Int.reduceLE, Nat.reduceEqDiff, Nat.reduceAdd, Nat.reduceMul, Nat.reduceLT, Nat.reduceLeDiff, Nat.reduceSub, reduceCtorEq, reduceIte, Int.reduceToNat]
          refine hNd _ (VWp.keep [1,2,3,6,8,9,10,11] [3,6,8,9,47,30] ?_); simp only [go_sem, Int.reduceEq, Int.reduceNe, Int.reduceLT, Int.reduceLE, Nat.reduceEqDiff, Nat.reduceAdd, Nat.reduceMul, Nat.reduceLT, Nat.reduceLeDiff, Nat.reduceSub, reduceCtorEq, reduceIte, Int.reduceToNat]
          refine vreg tt_ok hF rfl ?_; simp only [go_sem, Int.reduceEq, Int.reduceNe, Int.reduceLT, Int.reduceLE, Nat.reduceEqDiff, Nat.reduceAdd, Nat.reduceMul, Nat.reduceLT, Nat.reduceLeDiff, Nat.reduceSub, reduceCtorEq, reduceIte, Int.reduceToNat]
          rw [wrap_i64 (by omega) (by omega)]
          refine ⟨k + 1, by omega, by omega, ?_⟩
          have hLx : L ++ [x] = wgS ⟨s, l⟩ c.gs (k + 1) := hLx
          have hd : d = wgD ⟨s, l⟩ c.gs (k + 1) := hd
          simp only [go_sem, Int.reduceEq, Int.reduceNe, Int.reduceLT, Int.reduceLE, Nat.reduceEqDiff, Nat.reduceAdd, Nat.reduceMul, Nat.reduceLT, Nat.reduceLeDiff, Nat.reduceSub, reduceCtorEq, reduceIte, Int.reduceToNat, hLx, ← hd]
          simp [← hLx]
      · have hle : k = c.gs.length := by have : c.gs.length ≤ k := by simpa using hf
                                         omega
        subst hle
        refine vwp_exit ?_
        simp only [go_sem, Int.reduceEq, Int.reduceNe, Int.reduceLT, Int.reduceLE, Nat.reduceEqDiff, Nat.reduceAdd, Nat.reduceMul, Nat.reduceLT, Nat.reduceLeDiff, Nat.reduceSub, reduceCtorEq, reduceIte, Int.reduceToNat]
        refine hN _ (VWp.keep [3,6,8,9,10] [3,6,8,9,47,30] ?_); simp only [go_sem, Int.reduceEq, Int.reduceNe, Int.reduceLT, Int.reduceLE, Nat.reduceEqDiff, Nat.reduceAdd, Nat.reduceMul, Nat.reduceLT, Nat.reduceLeDiff, Nat.reduceSub, reduceCtorEq, reduceIte, Int.reduceToNat]
        refine vmeet (fun _ : Unit => [(6, .ptr 6 0), (9, .ptr 9 0)])
          (fun _ => [(6, .box 31 [.nil, .nil]), (9, .box 31 [.own 47 c.es.length, .own 30 (insG ⟨s, l⟩ c.gs).length]), (47, .arr 4 45 (c.es.map entC)), (30, .arr 2 47 ((insG ⟨s, l⟩ c.gs).map grpC))]) (fun _ => True) ?_ ?_
        · refine vwp_seq_k fun Na hNa => vreg tt_ok hF rfl ?_; simp only [go_sem, Int.reduceEq, Int.reduceNe, Int.reduceLT, Int.reduceLE, Nat.reduceEqDiff, Nat.reduceAdd, Nat.reduceMul, Nat.reduceLT, Nat.reduceLeDiff, Nat.reduceSub, reduceCtorEq, reduceIte, Int.reduceToNat]
          refine hNa _ (VWp.keep [6,8,9,88] [6,8,9,47,30] ?_); simp only [go_sem, Int.reduceEq, Int.reduceNe, Int.reduceLT, Int.reduceLE, Nat.reduceEqDiff, Nat.reduceAdd, Nat.reduceMul, Nat.reduceLT, Nat.reduceLeDiff, Nat.reduceSub, reduceCtorEq, reduceIte, Int.reduceToNat]
          rw [wgS_end ⟨s, l⟩ c.gs]
          have hwl : (wgS ⟨s, l⟩ c.gs c.gs.length).length ≤ 1000001 := Nat.le_trans (wgS_len ⟨s, l⟩ c.gs _) (by omega)
          refine vif rfl ⟨fun ht => ?_, fun hf => ?_⟩
          · rw [Bool.not_eq_true'] at ht; rw [ht]
            refine vreg tt_ok hF rfl ?_; simp only [go_sem, Int.reduceEq, Int.reduceNe, Int.reduceLT, Int.reduceLE, Nat.reduceEqDiff, Nat.reduceAdd, Nat.reduceMul, Nat.reduceLT, Nat.reduceLeDiff, Nat.reduceSub, reduceCtorEq, reduceIte, Int.reduceToNat]
            refine ⟨by omega, ?_⟩
            simp only [grp_snoc (wgS ⟨s, l⟩ c.gs c.gs.length) ⟨s, l⟩, go_sem, Int.reduceEq, Int.reduceNe, Int.reduceLT, Int.reduceLE, Nat.reduceEqDiff, Nat.reduceAdd, Nat.reduceMul, Nat.reduceLT, Nat.reduceLeDiff, Nat.reduceSub, reduceCtorEq, reduceIte, Int.reduceToNat]
            exact ⟨(), trivial⟩
          · rw [Bool.not_eq_false'] at hf; rw [hf]
            refine vwp_skip ⟨(), ?_⟩
            simp only [go_sem, Int.reduceEq, Int.reduceNe, Int.reduceLT, Int.reduceLE, Nat.reduceEqDiff, Nat.reduceAdd, Nat.reduceMul, Nat.reduceLT, Nat.reduceLeDiff, Nat.reduceSub, reduceCtorEq, reduceIte, Int.reduceToNat]
        · intro _ _
          refine vwp_seq_k fun N hN => vreg tt_ok hF rfl ?_; simp only [go_sem, Int.reduceEq, Int.reduceNe, Int.reduceLT, Int.reduceLE, Nat.reduceEqDiff, Nat.reduceAdd, Nat.reduceMul, Nat.reduceLT, Nat.reduceLeDiff, Nat.reduceSub, reduceCtorEq, reduceIte, Int.reduceToNat]
          refine hN _ (vwp_ret ?_)
          simp only [go_sem, Int.reduceEq, Int.reduceNe, Int.reduceLT, Int.reduceLE, Nat.reduceEqDiff, Nat.reduceAdd, Nat.reduceMul, Nat.reduceLT, Nat.reduceLeDiff, Nat.reduceSub, reduceCtorEq, reduceIte, Int.reduceToNat]
          exact LeV.refl _
end Go.Proofs.YtldkmclfhjcicaaGreatDoor

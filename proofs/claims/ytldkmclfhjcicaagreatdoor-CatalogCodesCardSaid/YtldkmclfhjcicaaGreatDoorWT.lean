import Derived.Outline
import Derived.Test.YtldkmclfhjcicaaGreatDoorVP
import Derived.Test.YtldkmclfhjcicaaGreatDoorBr
namespace Go.Proofs.YtldkmclfhjcicaaGreatDoor
open Go.RowKit
set_option linter.unusedVariables false
set_option linter.unusedSimpArgs false

theorem two_spec (n : Int) (h0 : 0 ≤ n) (h1 : n < 65536) : Spec Tryz.prog 12 [.int .i64 n] (.sl 1 [[.int .u8 (n / 256)], [.int .u8 (n % 256)]]) := by
  refine spec_of tt_ok Tryz.func12 rfl (by decide) Tryz.ntmps12 (congrArg Array.toList Tryz.results12) (by simp) (by decide) rfl rfl (fun F hF => ?_)
  refine vwp_seq_k fun N hN => vreg tt_ok hF rfl ?_; simp only [go_sem, Int.reduceEq, Int.reduceNe, Int.reduceLT, Int.reduceLE, Nat.reduceEqDiff, Nat.reduceAdd, Nat.reduceMul, Nat.reduceLT, Nat.reduceLeDiff, Nat.reduceSub, reduceCtorEq, reduceIte, Int.reduceToNat]
  refine hN _ ?_
  refine vwp_seq_k fun N hN => vreg tt_ok hF rfl ?_; simp only [go_sem, Int.reduceEq, Int.reduceNe, Int.reduceLT, Int.reduceLE, Nat.reduceEqDiff, Nat.reduceAdd, Nat.reduceMul, Nat.reduceLT, Nat.reduceLeDiff, Nat.reduceSub, reduceCtorEq, reduceIte, Int.reduceToNat]
  simp (disch := omega) only [tdiv_pos, tmod_pos, wrap_i64, wrap_u8, wrap_u64]
  refine hN _ (vwp_ret ?_)
  simp only [go_sem, Int.reduceEq, Int.reduceNe, Int.reduceLT, Int.reduceLE, Nat.reduceEqDiff, Nat.reduceAdd, Nat.reduceMul, Nat.reduceLT, Nat.reduceLeDiff, Nat.reduceSub, reduceCtorEq, reduceIte, Int.reduceToNat]
  exact LeV.of_eq (by rw [show n / 256 % 256 = n / 256 from by omega, show n % 256 % 256 = n % 256 from by omega])

theorem erase_step {α : Type} (l : List α) (i k : Nat) (x : α) (h : l[k]? = some x) : (l.take (k + 1)).eraseIdx i = if k = i then (l.take k).eraseIdx i else (l.take k).eraseIdx i ++ [x] := by
  have hk : k < l.length := (List.getElem?_eq_some_iff.1 h).1
  have e : l.take (k + 1) = l.take k ++ [x] := by rw [List.take_succ_eq_append_getElem hk]; congr 1; simp [(List.getElem?_eq_some_iff.1 h).2]
  have hlen : (l.take k).length = k := by simp; omega
  rw [e]
  split
  · rename_i e; subst e
    rw [List.eraseIdx_append_of_length_le (by omega), hlen, List.eraseIdx_of_length_le (l := l.take k) (by omega)]; simp
  · rename_i hne
    rcases Nat.lt_or_ge i k with c | c
    · rw [List.eraseIdx_append_of_lt_length (by omega)]
    · rw [List.eraseIdx_of_length_le (l := l.take k) (by omega), List.eraseIdx_of_length_le (by simp; omega)]

set_option maxHeartbeats 4000000 in
set_option maxRecDepth 4000 in
theorem without_spec (c : Cat) (i : Nat) (h1 : c.es.length ≤ 1000000) (h2 : c.gs.length ≤ 1000000) : Spec Tryz.prog 66 [catV c, .int .i64 (i : Int)] (catV ⟨c.es.eraseIdx i, c.gs⟩) := by
  unfold catV entsV grpsV
  refine spec_of tt_ok Tryz.func66 rfl (by decide) Tryz.ntmps66 (congrArg Array.toList Tryz.results66) (by simp) (by decide) rfl rfl (fun F hF => ?_)
  refine vwp_seq_k fun N hN => vreg tt_ok hF rfl ?_; simp only [go_sem, Int.reduceEq, Int.reduceNe, Int.reduceLT, Int.reduceLE, Nat.reduceEqDiff, Nat.reduceAdd, Nat.reduceMul, Nat.reduceLT, Nat.reduceLeDiff, Nat.reduceSub, reduceCtorEq, reduceIte, Int.reduceToNat]
  refine hN _ (VWp.keepR [1,2,4] [2,4] tt_ok hF rfl fun N hN => ?_); simp only [go_sem, Int.reduceEq, Int.reduceNe, Int.reduceLT, Int.reduceLE, Nat.reduceEqDiff, Nat.reduceAdd, Nat.reduceMul, Nat.reduceLT, Nat.reduceLeDiff, Nat.reduceSub, reduceCtorEq, reduceIte, Int.reduceToNat]
  refine ⟨by omega, ?_⟩
  refine hN _ (VWp.keep [1,2,4,5] [2,4,5,7] ?_); simp only [go_sem, Int.reduceEq, Int.reduceNe, Int.reduceLT, Int.reduceLE, Nat.reduceEqDiff, Nat.reduceAdd, Nat.reduceMul, Nat.reduceLT, Nat.reduceLeDiff, Nat.reduceSub, reduceCtorEq, reduceIte, Int.reduceToNat]
  refine vwp_seq_k fun N hN => ?_
  refine vwp_seq_k fun Na hNa => vreg tt_ok hF rfl ?_; simp only [go_sem, Int.reduceEq, Int.reduceNe, Int.reduceLT, Int.reduceLE, Nat.reduceEqDiff, Nat.reduceAdd, Nat.reduceMul, Nat.reduceLT, Nat.reduceLeDiff, Nat.reduceSub, reduceCtorEq, reduceIte, Int.reduceToNat]
  refine hNa _ (VWp.keep [1,2,4,5,6] [2,4,5,7] ?_); simp only [go_sem, Int.reduceEq, Int.reduceNe, Int.reduceLT, Int.reduceLE, Nat.reduceEqDiff, Nat.reduceAdd, Nat.reduceMul, Nat.reduceLT, Nat.reduceLeDiff, Nat.reduceSub, reduceCtorEq, reduceIte, Int.reduceToNat]
  refine VWp.adoptB 30 4 45 (o := 5) (i := 0) rfl rfl rfl (by decide) ?_
  refine VWp.keep [1,2,4,5,6] [2,4,5,7,30] ?_; simp only [go_sem, Int.reduceEq, Int.reduceNe, Int.reduceLT, Int.reduceLE, Nat.reduceEqDiff, Nat.reduceAdd, Nat.reduceMul, Nat.reduceLT, Nat.reduceLeDiff, Nat.reduceSub, reduceCtorEq, reduceIte, Int.reduceToNat]
  refine vwp_block (vloop (fun k : Nat => [(1, .int .i64 (i : Int)), (2, .ptr 2 0), (4, .ptr 4 0), (5, .ptr 5 0), (6, .int .i64 (k : Int))])
    (fun k => [(2, .box 31 [.sl 4 (c.es.map entC), .sl 2 (c.gs.map grpC)]), (4, .box 31 [.nil, .nil]), (5, .box 31 [.own 30 ((c.es.take k).eraseIdx i).length, .own 7 c.gs.length]), (7, .arr 2 47 (c.gs.map grpC)), (30, .arr 4 45 (((c.es.take k).eraseIdx i).map entC))])
    (fun k => k ≤ c.es.length) (fun k => c.es.length - k) 0 (by omega) (by simp only [go_sem, Int.reduceEq, Int.reduceNe, Int.reduceLT, Int.reduceLE, Nat.reduceEqDiff, Nat.reduceAdd, Nat.reduceMul, Nat.reduceLT, Nat.reduceLeDiff, Nat.reduceSub, reduceCtorEq, reduceIte, Int.reduceToNat]; simp) ?_)
  intro k hk
  refine vwp_seq_k fun Nb hNb => ?_
  refine vwp_seq_k fun Nc hNc => vreg tt_ok hF rfl ?_; simp only [go_sem, Int.reduceEq, Int.reduceNe, Int.reduceLT, Int.reduceLE, Nat.reduceEqDiff, Nat.reduceAdd, Nat.reduceMul, Nat.reduceLT, Nat.reduceLeDiff, Nat.reduceSub, reduceCtorEq, reduceIte, Int.reduceToNat]
  refine hNc _ (VWp.keep [1,2,4,5,6,16] [2,4,5,7,30] ?_); simp only [go_sem, Int.reduceEq, Int.reduceNe, Int.reduceLT, Int.reduceLE, Nat.reduceEqDiff, Nat.reduceAdd, Nat.reduceMul, Nat.reduceLT, Nat.reduceLeDiff, Nat.reduceSub, reduceCtorEq, reduceIte, Int.reduceToNat]
  refine vif rfl ⟨fun ht => ?_, fun hf => ?_⟩
  · have hlt : k < c.es.length := by simpa using ht
    obtain ⟨x, hx⟩ : ∃ x, c.es[k]? = some x := ⟨_, List.getElem?_eq_getElem hlt⟩
    have hrow : (c.es.map entC).getD k [] = entC x := by simp [hx]
    have hst := erase_step c.es i k x hx
    refine vwp_skip (hNb _ ?_)
    refine vwp_seq_k fun Nd hNd => ?_
    refine vwp_block ?_
    refine vwp_seq_k fun Ne hNe => vreg tt_ok hF rfl ?_; simp only [go_sem, Int.reduceEq, Int.reduceNe, Int.reduceLT, Int.reduceLE, Nat.reduceEqDiff, Nat.reduceAdd, Nat.reduceMul, Nat.reduceLT, Nat.reduceLeDiff, Nat.reduceSub, reduceCtorEq, reduceIte, Int.reduceToNat]
    refine hNe _ (VWp.keep [1,2,4,5,6,21] [2,4,5,7,30] ?_); simp only [go_sem, Int.reduceEq, Int.reduceNe, Int.reduceLT, Int.reduceLE, Nat.reduceEqDiff, Nat.reduceAdd, Nat.reduceMul, Nat.reduceLT, Nat.reduceLeDiff, Nat.reduceSub, reduceCtorEq, reduceIte, Int.reduceToNat]
    refine vif rfl ⟨fun ht => ?_, fun hf => ?_⟩
    · refine vregd tt_ok mixed hF rfl (by kernel_rfl) (by kernel_rfl) ?_
      simp only [go_sem, Int.reduceEq, Int.reduceNe, Int.reduceLT, Int.reduceLE, Nat.reduceEqDiff, Nat.reduceAdd, Nat.reduceMul, Nat.reduceLT, Nat.reduceLeDiff, Nat.reduceSub, reduceCtorEq, reduceIte, Int.reduceToNat, hrow, entC]
      rw [entC_fold]
      have hlen : ((c.es.take k).eraseIdx i).length ≤ 1000000 := Nat.le_trans (List.length_eraseIdx_le _ _) (by simp; omega)
      refine ⟨⟨by omega, by omega⟩, by omega, ?_⟩
      have hki : ¬ k = i := by intro e; subst e; simp at ht
      rw [if_neg hki] at hst
      refine hNd _ (VWp.keep [1,2,4,5,6] [2,4,5,7,30] ?_); simp only [go_sem, Int.reduceEq, Int.reduceNe, Int.reduceLT, Int.reduceLE, Nat.reduceEqDiff, Nat.reduceAdd, Nat.reduceMul, Nat.reduceLT, Nat.reduceLeDiff, Nat.reduceSub, reduceCtorEq, reduceIte, Int.reduceToNat]
      refine vreg tt_ok hF rfl ?_; simp only [go_sem, Int.reduceEq, Int.reduceNe, Int.reduceLT, Int.reduceLE, Nat.reduceEqDiff, Nat.reduceAdd, Nat.reduceMul, Nat.reduceLT, Nat.reduceLeDiff, Nat.reduceSub, reduceCtorEq, reduceIte, Int.reduceToNat]
      rw [wrap_i64 (by omega) (by omega)]
      exact ⟨k + 1, by omega, by omega, by simp only [go_sem, Int.reduceEq, Int.reduceNe, Int.reduceLT, Int.reduceLE, Nat.reduceEqDiff, Nat.reduceAdd, Nat.reduceMul, Nat.reduceLT, Nat.reduceLeDiff, Nat.reduceSub, reduceCtorEq, reduceIte, Int.reduceToNat, hst]; simp [entC]⟩
    · have hki : k = i := by have := of_decide_eq_true (by simpa using hf : decide ((k : Int) = (i : Int)) = true); omega
      rw [if_pos hki] at hst
      refine vwp_skip ?_
      simp only [go_sem, Int.reduceEq, Int.reduceNe, Int.reduceLT, Int.reduceLE, Nat.reduceEqDiff, Nat.reduceAdd, Nat.reduceMul, Nat.reduceLT, Nat.reduceLeDiff, Nat.reduceSub, reduceCtorEq, reduceIte, Int.reduceToNat]
      refine hNd _ (VWp.keep [1,2,4,5,6] [2,4,5,7,30] ?_); simp only [go_sem, Int.reduceEq, Int.reduceNe, Int.reduceLT, Int.reduceLE, Nat.reduceEqDiff, Nat.reduceAdd, Nat.reduceMul, Nat.reduceLT, Nat.reduceLeDiff, Nat.reduceSub, reduceCtorEq, reduceIte, Int.reduceToNat]
      refine vreg tt_ok hF rfl ?_; simp only [go_sem, Int.reduceEq, Int.reduceNe, Int.reduceLT, Int.reduceLE, Nat.reduceEqDiff, Nat.reduceAdd, Nat.reduceMul, Nat.reduceLT, Nat.reduceLeDiff, Nat.reduceSub, reduceCtorEq, reduceIte, Int.reduceToNat]
      rw [wrap_i64 (by omega) (by omega)]
      exact ⟨k + 1, by omega, by omega, by simp only [go_sem, Int.reduceEq, Int.reduceNe, Int.reduceLT, Int.reduceLE, Nat.reduceEqDiff, Nat.reduceAdd, Nat.reduceMul, Nat.reduceLT, Nat.reduceLeDiff, Nat.reduceSub, reduceCtorEq, reduceIte, Int.reduceToNat, hst]; simp [entC]⟩
  · have hle : k = c.es.length := by have : c.es.length ≤ k := by simpa using hf
                                     omega
    subst hle
    refine vwp_exit ?_
    simp only [go_sem, Int.reduceEq, Int.reduceNe, Int.reduceLT, Int.reduceLE, Nat.reduceEqDiff, Nat.reduceAdd, Nat.reduceMul, Nat.reduceLT, Nat.reduceLeDiff, Nat.reduceSub, reduceCtorEq, reduceIte, Int.reduceToNat]
    rw [List.take_length]
    refine hN _ (VWp.keepR [4,5] [4,5,7,30] tt_ok hF rfl fun N hN => ?_); simp only [go_sem, Int.reduceEq, Int.reduceNe, Int.reduceLT, Int.reduceLE, Nat.reduceEqDiff, Nat.reduceAdd, Nat.reduceMul, Nat.reduceLT, Nat.reduceLeDiff, Nat.reduceSub, reduceCtorEq, reduceIte, Int.reduceToNat]
    refine hN _ (vwp_ret ?_)
    simp only [go_sem, Int.reduceEq, Int.reduceNe, Int.reduceLT, Int.reduceLE, Nat.reduceEqDiff, Nat.reduceAdd, Nat.reduceMul, Nat.reduceLT, Nat.reduceLeDiff, Nat.reduceSub, reduceCtorEq, reduceIte, Int.reduceToNat]
    exact LeV.refl _
end Go.Proofs.YtldkmclfhjcicaaGreatDoor

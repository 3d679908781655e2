import Derived.Outline
import Derived.Test.YtedbbinlcdgkoaaGreatDoorZB

/- Layer 19: equal configurations; ConfigBack. -/
namespace Go.Proofs.YtedbbinlcdgkoaaGreatDoor
open Go.RowKit Go.Lib
-- FUSE
-- LESS
set_option linter.unusedVariables false
set_option linter.unusedSimpArgs false
set_option maxHeartbeats 4000000 in
set_option maxRecDepth 4000 in
theorem equal_same (c : CfgT) (h1 : c.us.length ≤ 1000) (h2 : c.ps.length ≤ 1000) : Spec Tryz.prog 20 [.agg (cfgC c), .agg (cfgC c)] (.bool true) := by
  unfold cfgC
  refine spec_of tt_ok Tryz.func20 rfl (by decide) Tryz.ntmps20 (congrArg Array.toList Tryz.results20) (by simp) (by decide) rfl rfl (fun F hF => ?_)
  refine vwp_seq_k fun Na hNa => vreg tt_ok hF rfl ?_; simp only [go_sem, Int.reduceEq, Int.reduceLT, Nat.reduceEqDiff, Nat.reduceAdd, Nat.reduceMul, Nat.reduceLT, Nat.reduceLeDiff, Int.reduceToNat]   -- R0
  refine hNa _ (VWp.keep [2,3] [2,3] ?_); simp only [go_sem, Int.reduceEq, Int.reduceLT, Nat.reduceEqDiff, Nat.reduceAdd, Nat.reduceMul, Nat.reduceLT, Nat.reduceLeDiff, Int.reduceToNat]
  refine vwp_seq_k fun Nb hNb => ?_
  refine vwp_seq_k fun Nc hNc => vreg tt_ok hF rfl ?_; simp only [go_sem, Int.reduceEq, Int.reduceLT, Nat.reduceEqDiff, Nat.reduceAdd, Nat.reduceMul, Nat.reduceLT, Nat.reduceLeDiff, Int.reduceToNat]   -- R1
  try simp only [decide_true, List.length_map, go_sem, Int.reduceEq, Int.reduceLT, Nat.reduceEqDiff, Nat.reduceAdd, Nat.reduceMul, Nat.reduceLT, Nat.reduceLeDiff, Int.reduceToNat]
  refine hNc _ (VWp.keep [2,3,29] [2,3] ?_); simp only [go_sem, Int.reduceEq, Int.reduceLT, Nat.reduceEqDiff, Nat.reduceAdd, Nat.reduceMul, Nat.reduceLT, Nat.reduceLeDiff, Int.reduceToNat]
  refine vif rfl ⟨(fun hf => by cases hf), fun ht => ?_⟩
  refine vwp_skip (hNb _ ?_)
  refine vwp_seq_k fun Ne hNe => ?_
  refine vwp_seq_k fun Nf hNf => vreg tt_ok hF rfl ?_; simp only [go_sem, Int.reduceEq, Int.reduceLT, Nat.reduceEqDiff, Nat.reduceAdd, Nat.reduceMul, Nat.reduceLT, Nat.reduceLeDiff, Int.reduceToNat]   -- R3
  try simp only [List.length_map]
  refine hNf _ (VWp.keep [2,3,32,33] [2,3] ?_); simp only [go_sem, Int.reduceEq, Int.reduceLT, Nat.reduceEqDiff, Nat.reduceAdd, Nat.reduceMul, Nat.reduceLT, Nat.reduceLeDiff, Int.reduceToNat]
  refine vwp_block ?_
  refine vloop (fun k : Nat => [(2, .ptr 2 0), (3, .ptr 3 0), (32, .int .i64 (c.ps.length : Int)), (33, .int .i64 (k : Int))]) (fun k => [(2, .box 25 [.sl 5 (c.us.map uniC), .int .i64 c.store, .sl 2 (c.ps.map parC)]), (3, .box 25 [.sl 5 (c.us.map uniC), .int .i64 c.store, .sl 2 (c.ps.map parC)])]) (fun k => k ≤ c.ps.length) (fun k => c.ps.length - k) 0 (by omega) (by simp only [go_sem, Int.reduceEq, Int.reduceLT, Nat.reduceEqDiff, Nat.reduceAdd, Nat.reduceMul, Nat.reduceLT, Nat.reduceLeDiff, Int.reduceToNat]; try rfl) ?_
  intro k hk
  refine vwp_seq_k fun Ng hNg => vreg tt_ok hF rfl ?_; simp only [go_sem, Int.reduceEq, Int.reduceLT, Nat.reduceEqDiff, Nat.reduceAdd, Nat.reduceMul, Nat.reduceLT, Nat.reduceLeDiff, Int.reduceToNat]   -- R4
  refine hNg _ (VWp.keep [2,3,32,33,34] [2,3] ?_); simp only [go_sem, Int.reduceEq, Int.reduceLT, Nat.reduceEqDiff, Nat.reduceAdd, Nat.reduceMul, Nat.reduceLT, Nat.reduceLeDiff, Int.reduceToNat]
  refine vwp_seq_k fun Nh hNh => ?_
  refine vif rfl ⟨fun ht => ?_, fun hf => ?_⟩
  · have hq : k < c.ps.length := by have := of_decide_eq_true ht; omega
    have hget := par_row hq
    refine vwp_skip (hNh _ ?_)
    refine vwp_seq_k fun Ni hNi => ?_
    refine vwp_block ?_
    refine vwp_seq_k fun Nj hNj => vreg tt_ok hF rfl ?_; simp only [go_sem, Int.reduceEq, Int.reduceLT, Nat.reduceEqDiff, Nat.reduceAdd, Nat.reduceMul, Nat.reduceLT, Nat.reduceLeDiff, Int.reduceToNat]   -- R5
    refine hNj _ (VWp.keep [2,3,5,32,33] [2,3] ?_); simp only [go_sem, Int.reduceEq, Int.reduceLT, Nat.reduceEqDiff, Nat.reduceAdd, Nat.reduceMul, Nat.reduceLT, Nat.reduceLeDiff, Int.reduceToNat]
    refine vwp_seq_k fun Nk hNk => vregd tt_ok mixed hF rfl (by kernel_rfl) (by kernel_rfl) ?_
    simp only [hget, List.length_map, Int.toNat_natCast, decide_true, Bool.and_true, Bool.not_true, go_sem, Int.reduceEq, Int.reduceLT, Nat.reduceEqDiff, Nat.reduceAdd, Nat.reduceMul, Nat.reduceLT, Nat.reduceLeDiff, Int.reduceToNat]
    (repeat (refine ⟨by (try simp only [List.length_append, List.length_cons, List.length_nil]); omega, ?_⟩))
    refine hNk _ (VWp.keep [2,3,32,33,46] [2,3] ?_); simp only [go_sem, Int.reduceEq, Int.reduceLT, Nat.reduceEqDiff, Nat.reduceAdd, Nat.reduceMul, Nat.reduceLT, Nat.reduceLeDiff, Int.reduceToNat]
    refine vif rfl ⟨(fun hf => by cases hf), fun ht => ?_⟩
    refine vwp_skip (hNi _ ?_)
    refine vreg tt_ok hF rfl ?_; simp only [go_sem, Int.reduceEq, Int.reduceLT, Nat.reduceEqDiff, Nat.reduceAdd, Nat.reduceMul, Nat.reduceLT, Nat.reduceLeDiff, Int.reduceToNat]   -- R8
    rw [wrap_i64 (by omega) (by omega)]
    exact ⟨k + 1, by omega, by omega, by simp⟩
  · refine vwp_exit ?_
    simp only [go_sem, Int.reduceEq, Int.reduceLT, Nat.reduceEqDiff, Nat.reduceAdd, Nat.reduceMul, Nat.reduceLT, Nat.reduceLeDiff, Int.reduceToNat]
    refine hNe _ (VWp.keep [2,3] [2,3] ?_); simp only [go_sem, Int.reduceEq, Int.reduceLT, Nat.reduceEqDiff, Nat.reduceAdd, Nat.reduceMul, Nat.reduceLT, Nat.reduceLeDiff, Int.reduceToNat]
    refine vwp_seq_k fun Nm hNm => ?_
    refine vwp_seq_k fun Nn hNn => vreg tt_ok hF rfl ?_; simp only [go_sem, Int.reduceEq, Int.reduceLT, Nat.reduceEqDiff, Nat.reduceAdd, Nat.reduceMul, Nat.reduceLT, Nat.reduceLeDiff, Int.reduceToNat]   -- R9
    try simp only [List.length_map]
    refine hNn _ (VWp.keep [2,3,50,51] [2,3] ?_); simp only [go_sem, Int.reduceEq, Int.reduceLT, Nat.reduceEqDiff, Nat.reduceAdd, Nat.reduceMul, Nat.reduceLT, Nat.reduceLeDiff, Int.reduceToNat]
    refine vwp_block ?_
    refine vloop (fun k : Nat => [(2, .ptr 2 0), (3, .ptr 3 0), (50, .int .i64 (c.us.length : Int)), (51, .int .i64 (k : Int))]) (fun k => [(2, .box 25 [.sl 5 (c.us.map uniC), .int .i64 c.store, .sl 2 (c.ps.map parC)]), (3, .box 25 [.sl 5 (c.us.map uniC), .int .i64 c.store, .sl 2 (c.ps.map parC)])]) (fun k => k ≤ c.us.length) (fun k => c.us.length - k) 0 (by omega) (by simp only [go_sem, Int.reduceEq, Int.reduceLT, Nat.reduceEqDiff, Nat.reduceAdd, Nat.reduceMul, Nat.reduceLT, Nat.reduceLeDiff, Int.reduceToNat]; try rfl) ?_
    intro k hk
    refine vwp_seq_k fun No hNo => vreg tt_ok hF rfl ?_; simp only [go_sem, Int.reduceEq, Int.reduceLT, Nat.reduceEqDiff, Nat.reduceAdd, Nat.reduceMul, Nat.reduceLT, Nat.reduceLeDiff, Int.reduceToNat]   -- R10
    refine hNo _ (VWp.keep [2,3,50,51,52] [2,3] ?_); simp only [go_sem, Int.reduceEq, Int.reduceLT, Nat.reduceEqDiff, Nat.reduceAdd, Nat.reduceMul, Nat.reduceLT, Nat.reduceLeDiff, Int.reduceToNat]
    refine vwp_seq_k fun Np hNp => ?_
    refine vif rfl ⟨fun ht => ?_, fun hf => ?_⟩
    · have hq : k < c.us.length := by have := of_decide_eq_true ht; omega
      have hget := uni_row hq
      refine vwp_skip (hNp _ ?_)
      refine vwp_seq_k fun Nq hNq => ?_
      refine vwp_block ?_
      refine vwp_seq_k fun Nr hNr => vreg tt_ok hF rfl ?_; simp only [go_sem, Int.reduceEq, Int.reduceLT, Nat.reduceEqDiff, Nat.reduceAdd, Nat.reduceMul, Nat.reduceLT, Nat.reduceLeDiff, Int.reduceToNat]   -- R11
      refine hNr _ (VWp.keep [2,3,6,50,51] [2,3] ?_); simp only [go_sem, Int.reduceEq, Int.reduceLT, Nat.reduceEqDiff, Nat.reduceAdd, Nat.reduceMul, Nat.reduceLT, Nat.reduceLeDiff, Int.reduceToNat]
      refine vwp_seq_k fun Ns hNs => vregd tt_ok mixed hF rfl (by kernel_rfl) (by kernel_rfl) ?_
      simp only [hget, List.length_map, Int.toNat_natCast, decide_true, Bool.and_true, Bool.not_true, go_sem, Int.reduceEq, Int.reduceLT, Nat.reduceEqDiff, Nat.reduceAdd, Nat.reduceMul, Nat.reduceLT, Nat.reduceLeDiff, Int.reduceToNat]
      (repeat (refine ⟨by (try simp only [List.length_append, List.length_cons, List.length_nil]); omega, ?_⟩))
      refine hNs _ (VWp.keep [2,3,50,51,64] [2,3] ?_); simp only [go_sem, Int.reduceEq, Int.reduceLT, Nat.reduceEqDiff, Nat.reduceAdd, Nat.reduceMul, Nat.reduceLT, Nat.reduceLeDiff, Int.reduceToNat]
      refine vif rfl ⟨(fun hf => by cases hf), fun ht => ?_⟩
      refine vwp_skip (hNq _ ?_)
      refine vreg tt_ok hF rfl ?_; simp only [go_sem, Int.reduceEq, Int.reduceLT, Nat.reduceEqDiff, Nat.reduceAdd, Nat.reduceMul, Nat.reduceLT, Nat.reduceLeDiff, Int.reduceToNat]   -- R14
      rw [wrap_i64 (by omega) (by omega)]
      exact ⟨k + 1, by omega, by omega, by simp⟩
    · refine vwp_exit ?_
      simp only [go_sem, Int.reduceEq, Int.reduceLT, Nat.reduceEqDiff, Nat.reduceAdd, Nat.reduceMul, Nat.reduceLT, Nat.reduceLeDiff, Int.reduceToNat]
      refine hNm _ (VWp.keepR [] [] tt_ok hF rfl fun Nu hNu => ?_); simp only [go_sem, Int.reduceEq, Int.reduceLT, Nat.reduceEqDiff, Nat.reduceAdd, Nat.reduceMul, Nat.reduceLT, Nat.reduceLeDiff, Int.reduceToNat]   -- R15
      refine hNu _ (VWp.keep [4] [] ?_); simp only [go_sem, Int.reduceEq, Int.reduceLT, Nat.reduceEqDiff, Nat.reduceAdd, Nat.reduceMul, Nat.reduceLT, Nat.reduceLeDiff, Int.reduceToNat]
      (refine vwp_ret ?_; simp only [go_sem, Int.reduceEq, Int.reduceLT, Nat.reduceEqDiff, Nat.reduceAdd, Nat.reduceMul, Nat.reduceLT, Nat.reduceLeDiff, Int.reduceToNat]; first | exact LeV.refl _ | exact LeV.of_eq (by simp))
theorem val_lens {c : CfgT} (h : chkE c = 0) : c.us.length ≤ 1000 ∧ c.ps.length ≤ 1000 := by
  have := val_of h
  have := this.n; have := (val_of h).p4
  omega
end Go.Proofs.YtedbbinlcdgkoaaGreatDoor

/- Layer 19: the small functions of ConfigLayout. -/
-- FUSE
-- LESS
namespace Go.Proofs.YtedbbinlcdgkoaaGreatDoor
open Go.RowKit Go.Lib
set_option linter.unusedVariables false
set_option linter.unusedSimpArgs false
set_option maxHeartbeats 4000000 in
set_option maxRecDepth 4000 in
theorem Remark_spec (n : Nat) (hn : n < 256) : Spec Tryz.prog 23 [.int .u8 n] (.str (remarkT n)) := by
  have e1 : (n : Int).tdiv 4 = ((n / 4 : Nat) : Int) := by rw [tdiv_pos (by omega)]; omega
  have e2 : ((n / 4 : Nat) : Int).tmod 3 = ((n / 4 % 3 : Nat) : Int) := by rw [tmod_pos (by omega)]; omega
  have e0 : IntKind.u8.wrap ((n / 4 : Nat) : Int) = ((n / 4 : Nat) : Int) := by rw [wrap_u8]; omega
  have hm := Nat.mod_lt (n / 4) (show 0 < 3 by decide)
  unfold remarkT
  obtain ⟨m, hmm⟩ : ∃ m, n / 4 % 3 = m := ⟨_, rfl⟩
  rw [hmm] at e2 hm ⊢
  rcases (show m = 0 ∨ m = 1 ∨ m = 2 by omega) with rfl | rfl | rfl
  · rw [if_pos rfl]
    unfold rem0
    refine spec_of tt_ok Tryz.func23 rfl (by decide) Tryz.ntmps23 (congrArg Array.toList Tryz.results23) (by simp) (by decide) rfl rfl (fun F hF => ?_)
    refine vwp_seq_k fun Na hNa => vreg tt_ok hF rfl ?_; simp only [go_sem, Int.reduceEq, Int.reduceLT, Nat.reduceEqDiff, Nat.reduceAdd, Nat.reduceMul, Nat.reduceLT, Nat.reduceLeDiff, Int.reduceToNat]
    refine hNa _ (VWp.keep [0] [] ?_); simp only [go_sem, Int.reduceEq, Int.reduceLT, Nat.reduceEqDiff, Nat.reduceAdd, Nat.reduceMul, Nat.reduceLT, Nat.reduceLeDiff, Int.reduceToNat]
    refine vwp_seq_k fun Nb hNb => ?_
    refine vwp_seq_k fun Nc hNc => vreg tt_ok hF rfl ?_; simp only [e0, e1, e2, go_sem, Int.reduceEq, Int.reduceLT, Nat.reduceEqDiff, Nat.reduceAdd, Nat.reduceMul, Nat.reduceLT, Nat.reduceLeDiff, Int.reduceToNat]
    refine hNc _ (VWp.keep [5] [] ?_); simp only [go_sem, Int.reduceEq, Int.reduceLT, Nat.reduceEqDiff, Nat.reduceAdd, Nat.reduceMul, Nat.reduceLT, Nat.reduceLeDiff, Int.reduceToNat]
    refine vwp_block ?_
    refine vwp_seq_k fun Nd hNd => vreg tt_ok hF rfl ?_; simp only [go_sem, Int.reduceEq, Int.reduceLT, Nat.reduceEqDiff, Nat.reduceAdd, Nat.reduceMul, Nat.reduceLT, Nat.reduceLeDiff, Int.reduceToNat]
    refine hNd _ (VWp.keep [5,6] [] ?_); simp only [go_sem, Int.reduceEq, Int.reduceLT, Nat.reduceEqDiff, Nat.reduceAdd, Nat.reduceMul, Nat.reduceLT, Nat.reduceLeDiff, Int.reduceToNat]
    refine vif rfl ⟨fun ht => ?_, (fun hf => by first | cases hf | exact absurd hf (by decide))⟩
    refine vwp_seq_k fun Ne hNe => vreg tt_ok hF rfl ?_; simp only [go_sem, Int.reduceEq, Int.reduceLT, Nat.reduceEqDiff, Nat.reduceAdd, Nat.reduceMul, Nat.reduceLT, Nat.reduceLeDiff, Int.reduceToNat]
    refine hNe _ (VWp.keep [2] [] ?_); simp only [go_sem, Int.reduceEq, Int.reduceLT, Nat.reduceEqDiff, Nat.reduceAdd, Nat.reduceMul, Nat.reduceLT, Nat.reduceLeDiff, Int.reduceToNat]
    (refine vwp_ret ?_; simp only [go_sem, Int.reduceEq, Int.reduceLT, Nat.reduceEqDiff, Nat.reduceAdd, Nat.reduceMul, Nat.reduceLT, Nat.reduceLeDiff, Int.reduceToNat]; first | exact LeV.refl _ | exact LeV.of_eq (by simp))
  · rw [if_neg (by decide), if_pos rfl]
    unfold rem1
    refine spec_of tt_ok Tryz.func23 rfl (by decide) Tryz.ntmps23 (congrArg Array.toList Tryz.results23) (by simp) (by decide) rfl rfl (fun F hF => ?_)
    refine vwp_seq_k fun Na hNa => vreg tt_ok hF rfl ?_; simp only [go_sem, Int.reduceEq, Int.reduceLT, Nat.reduceEqDiff, Nat.reduceAdd, Nat.reduceMul, Nat.reduceLT, Nat.reduceLeDiff, Int.reduceToNat]
    refine hNa _ (VWp.keep [0] [] ?_); simp only [go_sem, Int.reduceEq, Int.reduceLT, Nat.reduceEqDiff, Nat.reduceAdd, Nat.reduceMul, Nat.reduceLT, Nat.reduceLeDiff, Int.reduceToNat]
    refine vwp_seq_k fun Nb hNb => ?_
    refine vwp_seq_k fun Nc hNc => vreg tt_ok hF rfl ?_; simp only [e0, e1, e2, go_sem, Int.reduceEq, Int.reduceLT, Nat.reduceEqDiff, Nat.reduceAdd, Nat.reduceMul, Nat.reduceLT, Nat.reduceLeDiff, Int.reduceToNat]
    refine hNc _ (VWp.keep [5] [] ?_); simp only [go_sem, Int.reduceEq, Int.reduceLT, Nat.reduceEqDiff, Nat.reduceAdd, Nat.reduceMul, Nat.reduceLT, Nat.reduceLeDiff, Int.reduceToNat]
    refine vwp_block ?_
    refine vwp_seq_k fun Nd hNd => vreg tt_ok hF rfl ?_; simp only [go_sem, Int.reduceEq, Int.reduceLT, Nat.reduceEqDiff, Nat.reduceAdd, Nat.reduceMul, Nat.reduceLT, Nat.reduceLeDiff, Int.reduceToNat]
    refine hNd _ (VWp.keep [5,6] [] ?_); simp only [go_sem, Int.reduceEq, Int.reduceLT, Nat.reduceEqDiff, Nat.reduceAdd, Nat.reduceMul, Nat.reduceLT, Nat.reduceLeDiff, Int.reduceToNat]
    refine vif rfl ⟨(fun hf => by first | cases hf | exact absurd hf (by decide)), fun ht => ?_⟩
    refine vwp_seq_k fun Nf hNf => vreg tt_ok hF rfl ?_; simp only [go_sem, Int.reduceEq, Int.reduceLT, Nat.reduceEqDiff, Nat.reduceAdd, Nat.reduceMul, Nat.reduceLT, Nat.reduceLeDiff, Int.reduceToNat]
    refine hNf _ (VWp.keep [8] [] ?_); simp only [go_sem, Int.reduceEq, Int.reduceLT, Nat.reduceEqDiff, Nat.reduceAdd, Nat.reduceMul, Nat.reduceLT, Nat.reduceLeDiff, Int.reduceToNat]
    refine vif rfl ⟨fun ht => ?_, (fun hf => by first | cases hf | exact absurd hf (by decide))⟩
    refine vwp_seq_k fun Ng hNg => vreg tt_ok hF rfl ?_; simp only [go_sem, Int.reduceEq, Int.reduceLT, Nat.reduceEqDiff, Nat.reduceAdd, Nat.reduceMul, Nat.reduceLT, Nat.reduceLeDiff, Int.reduceToNat]
    refine hNg _ (VWp.keep [2] [] ?_); simp only [go_sem, Int.reduceEq, Int.reduceLT, Nat.reduceEqDiff, Nat.reduceAdd, Nat.reduceMul, Nat.reduceLT, Nat.reduceLeDiff, Int.reduceToNat]
    (refine vwp_ret ?_; simp only [go_sem, Int.reduceEq, Int.reduceLT, Nat.reduceEqDiff, Nat.reduceAdd, Nat.reduceMul, Nat.reduceLT, Nat.reduceLeDiff, Int.reduceToNat]; first | exact LeV.refl _ | exact LeV.of_eq (by simp))
  · rw [if_neg (by decide), if_neg (by decide)]
    unfold rem2
    refine spec_of tt_ok Tryz.func23 rfl (by decide) Tryz.ntmps23 (congrArg Array.toList Tryz.results23) (by simp) (by decide) rfl rfl (fun F hF => ?_)
    refine vwp_seq_k fun Na hNa => vreg tt_ok hF rfl ?_; simp only [go_sem, Int.reduceEq, Int.reduceLT, Nat.reduceEqDiff, Nat.reduceAdd, Nat.reduceMul, Nat.reduceLT, Nat.reduceLeDiff, Int.reduceToNat]
    refine hNa _ (VWp.keep [0] [] ?_); simp only [go_sem, Int.reduceEq, Int.reduceLT, Nat.reduceEqDiff, Nat.reduceAdd, Nat.reduceMul, Nat.reduceLT, Nat.reduceLeDiff, Int.reduceToNat]
    refine vwp_seq_k fun Nb hNb => ?_
    refine vwp_seq_k fun Nc hNc => vreg tt_ok hF rfl ?_; simp only [e0, e1, e2, go_sem, Int.reduceEq, Int.reduceLT, Nat.reduceEqDiff, Nat.reduceAdd, Nat.reduceMul, Nat.reduceLT, Nat.reduceLeDiff, Int.reduceToNat]
    refine hNc _ (VWp.keep [5] [] ?_); simp only [go_sem, Int.reduceEq, Int.reduceLT, Nat.reduceEqDiff, Nat.reduceAdd, Nat.reduceMul, Nat.reduceLT, Nat.reduceLeDiff, Int.reduceToNat]
    refine vwp_block ?_
    refine vwp_seq_k fun Nd hNd => vreg tt_ok hF rfl ?_; simp only [go_sem, Int.reduceEq, Int.reduceLT, Nat.reduceEqDiff, Nat.reduceAdd, Nat.reduceMul, Nat.reduceLT, Nat.reduceLeDiff, Int.reduceToNat]
    refine hNd _ (VWp.keep [5,6] [] ?_); simp only [go_sem, Int.reduceEq, Int.reduceLT, Nat.reduceEqDiff, Nat.reduceAdd, Nat.reduceMul, Nat.reduceLT, Nat.reduceLeDiff, Int.reduceToNat]
    refine vif rfl ⟨(fun hf => by first | cases hf | exact absurd hf (by decide)), fun ht => ?_⟩
    refine vwp_seq_k fun Nf hNf => vreg tt_ok hF rfl ?_; simp only [go_sem, Int.reduceEq, Int.reduceLT, Nat.reduceEqDiff, Nat.reduceAdd, Nat.reduceMul, Nat.reduceLT, Nat.reduceLeDiff, Int.reduceToNat]
    refine hNf _ (VWp.keep [8] [] ?_); simp only [go_sem, Int.reduceEq, Int.reduceLT, Nat.reduceEqDiff, Nat.reduceAdd, Nat.reduceMul, Nat.reduceLT, Nat.reduceLeDiff, Int.reduceToNat]
    refine vif rfl ⟨(fun hf => by first | cases hf | exact absurd hf (by decide)), fun ht => ?_⟩
    refine vwp_skip (hNb _ ?_)
    refine vwp_seq_k fun Nh hNh => vreg tt_ok hF rfl ?_; simp only [go_sem, Int.reduceEq, Int.reduceLT, Nat.reduceEqDiff, Nat.reduceAdd, Nat.reduceMul, Nat.reduceLT, Nat.reduceLeDiff, Int.reduceToNat]
    refine hNh _ (VWp.keep [2] [] ?_); simp only [go_sem, Int.reduceEq, Int.reduceLT, Nat.reduceEqDiff, Nat.reduceAdd, Nat.reduceMul, Nat.reduceLT, Nat.reduceLeDiff, Int.reduceToNat]
    (refine vwp_ret ?_; simp only [go_sem, Int.reduceEq, Int.reduceLT, Nat.reduceEqDiff, Nat.reduceAdd, Nat.reduceMul, Nat.reduceLT, Nat.reduceLeDiff, Int.reduceToNat]; first | exact LeV.refl _ | exact LeV.of_eq (by simp))
set_option maxHeartbeats 4000000 in
set_option maxRecDepth 4000 in
theorem wide_spec (s : Bs) (hs : s.length ≤ 1000000) : Spec Tryz.prog 22 [.str s] (.str (wideT s)) := by
  obtain ⟨W, hF0⟩ : ∃ W : Bs → Bs, W = fun s => s.flatMap (fun c => if c = 32 then [32, 32, 32] else [c]) := ⟨_, rfl⟩
  have hwt : wideT s = (32 :: W s) ++ [32] := by rw [hF0]; rfl
  have hFl : ∀ k, (W (s.take k)).length ≤ 3 * s.length := by
    intro k
    have : ∀ t : Bs, (W t).length ≤ 3 * t.length := by
      intro t
      rw [hF0]
      induction t with
      | nil => simp
      | cons c t ih =>
        simp only at ih ⊢
        rw [List.flatMap_cons, List.length_append, List.length_cons]
        split
        · have : ([32, 32, 32] : Bs).length = 3 := rfl
          omega
        · have : ([c] : Bs).length = 1 := rfl
          omega
    have h1 := this (s.take k)
    have h2 : (s.take k).length ≤ s.length := by rw [List.length_take]; omega
    omega
  have hFs : ∀ k (h : k < s.length), W (s.take (k + 1)) = W (s.take k) ++ (if s[k] = 32 then [32, 32, 32] else [s[k]]) := by
    intro k h
    rw [hF0]
    simp only
    rw [List.take_succ_eq_append_getElem h, List.flatMap_append]; simp
  have hFe : W [] = [] := by rw [hF0]; rfl
  rw [hwt]
  refine spec_of tt_ok Tryz.func22 rfl (by decide) Tryz.ntmps22 (congrArg Array.toList Tryz.results22) (by simp) (by decide) rfl rfl (fun F hF => ?_)
  refine vwp_seq_k fun Na hNa => vreg tt_ok hF rfl ?_; simp only [go_sem, Int.reduceEq, Int.reduceLT, Nat.reduceEqDiff, Nat.reduceAdd, Nat.reduceMul, Nat.reduceLT, Nat.reduceLeDiff, Int.reduceToNat]
  refine hNa _ (VWp.keepR [0] [] tt_ok hF rfl fun Nb hNb => ?_); simp only [go_sem, Int.reduceEq, Int.reduceLT, Nat.reduceEqDiff, Nat.reduceAdd, Nat.reduceMul, Nat.reduceLT, Nat.reduceLeDiff, Int.reduceToNat]
  refine hNb _ (VWp.keep [0,3] [] ?_); simp only [go_sem, Int.reduceEq, Int.reduceLT, Nat.reduceEqDiff, Nat.reduceAdd, Nat.reduceMul, Nat.reduceLT, Nat.reduceLeDiff, Int.reduceToNat]
  refine vwp_seq_k fun Nc hNc => ?_
  refine vwp_seq_k fun Nd hNd => vreg tt_ok hF rfl ?_; simp only [go_sem, Int.reduceEq, Int.reduceLT, Nat.reduceEqDiff, Nat.reduceAdd, Nat.reduceMul, Nat.reduceLT, Nat.reduceLeDiff, Int.reduceToNat]
  refine hNd _ (VWp.keep [0,3,4] [] ?_); simp only [go_sem, Int.reduceEq, Int.reduceLT, Nat.reduceEqDiff, Nat.reduceAdd, Nat.reduceMul, Nat.reduceLT, Nat.reduceLeDiff, Int.reduceToNat]
  refine vwp_block ?_
  refine vloop (fun k : Nat => [(0, .str s), (3, .str (32 :: W (s.take k))), (4, .int .i64 (k : Int))]) (fun k => []) (fun k => k ≤ s.length) (fun k => s.length - k) 0 (by omega) (by simp only [List.take_zero, hFe, go_sem, Int.reduceEq, Int.reduceLT, Nat.reduceEqDiff, Nat.reduceAdd, Nat.reduceMul, Nat.reduceLT, Nat.reduceLeDiff, Int.reduceToNat]; try trivial) ?_
  intro k hk
  refine vwp_seq_k fun Ne hNe => ?_
  refine vwp_seq_k fun Nf hNf => vreg tt_ok hF rfl ?_; simp only [go_sem, Int.reduceEq, Int.reduceLT, Nat.reduceEqDiff, Nat.reduceAdd, Nat.reduceMul, Nat.reduceLT, Nat.reduceLeDiff, Int.reduceToNat]
  refine hNf _ (VWp.keep [0,3,4,8] [] ?_); simp only [go_sem, Int.reduceEq, Int.reduceLT, Nat.reduceEqDiff, Nat.reduceAdd, Nat.reduceMul, Nat.reduceLT, Nat.reduceLeDiff, Int.reduceToNat]
  refine vif rfl ⟨fun ht => ?_, fun hf => ?_⟩
  · have hq : k < s.length := by have := of_decide_eq_true ht; omega
    have hget : s.getD k 0 = s[k] := by simp [List.getD_eq_getElem?_getD, List.getElem?_eq_getElem hq]
    have w1 : IntKind.i64.wrap ((k : Int) + 1) = ((k + 1 : Nat) : Int) := by rw [wrap_i64 (by omega) (by omega)]; omega
    have hsl : List.drop k (List.take (k + 1) s) = [s[k]] := by
      rw [List.take_succ_eq_append_getElem hq, List.drop_append_of_le_length (by rw [List.length_take]; omega), List.drop_eq_nil_of_le (by rw [List.length_take]; omega)]; rfl
    have hl := hFl k
    have hst := hFs k hq
    refine vwp_skip (hNe _ ?_)
    refine vmeet (fun _ : Unit => [(0, .str s), (3, .str (32 :: W (s.take (k + 1)))), (4, .int .i64 (k : Int))]) (fun _ => []) (fun _ => True) ?_ ?_
    · refine vwp_block ?_
      refine vwp_seq_k fun Nh hNh => vreg tt_ok hF rfl ?_; simp only [w1, Int.toNat_natCast, hsl, go_sem, Int.reduceEq, Int.reduceLT, Nat.reduceEqDiff, Nat.reduceAdd, Nat.reduceMul, Nat.reduceLT, Nat.reduceLeDiff, Int.reduceToNat]
      refine ⟨by omega, by (try simp only [List.length_cons, List.length_nil]); omega, ?_⟩
      refine hNh _ (VWp.keep [0,3,4] [] ?_); simp only [go_sem, Int.reduceEq, Int.reduceLT, Nat.reduceEqDiff, Nat.reduceAdd, Nat.reduceMul, Nat.reduceLT, Nat.reduceLeDiff, Int.reduceToNat]
      rcases hc : decide ((s[k].toNat : Int) = 32) with _ | _
      · have hne : s[k] ≠ 32 := fun q => by rw [q] at hc; cases hc
        rw [if_neg hne] at hst
        refine vwp_seq_k fun Ni hNi => vreg tt_ok hF rfl ?_; simp only [hget, Int.toNat_natCast, hc, go_sem, Int.reduceEq, Int.reduceLT, Nat.reduceEqDiff, Nat.reduceAdd, Nat.reduceMul, Nat.reduceLT, Nat.reduceLeDiff, Int.reduceToNat]
        refine ⟨by omega, ?_⟩
        refine hNi _ (VWp.keep [0,3,4,21] [] ?_); simp only [go_sem, Int.reduceEq, Int.reduceLT, Nat.reduceEqDiff, Nat.reduceAdd, Nat.reduceMul, Nat.reduceLT, Nat.reduceLeDiff, Int.reduceToNat]
        refine vif rfl ⟨(fun hf => by first | cases hf | exact absurd hf (by decide)), fun ht => ?_⟩
        refine vwp_skip ?_
        rw [hst]
        exact ⟨(), by simp only [List.cons_append, go_sem, Int.reduceEq, Int.reduceLT, Nat.reduceEqDiff, Nat.reduceAdd, Nat.reduceMul, Nat.reduceLT, Nat.reduceLeDiff, Int.reduceToNat]; try trivial⟩
      · have heq : s[k] = 32 := UInt8.toNat_inj.1 (by have := of_decide_eq_true hc; have h2 : s[k].toNat = 32 := by omega
                                                      rw [h2]; rfl)
        rw [if_pos heq] at hst
        refine vwp_seq_k fun Ni hNi => vreg tt_ok hF rfl ?_; simp only [hget, Int.toNat_natCast, hc, go_sem, Int.reduceEq, Int.reduceLT, Nat.reduceEqDiff, Nat.reduceAdd, Nat.reduceMul, Nat.reduceLT, Nat.reduceLeDiff, Int.reduceToNat]
        refine ⟨by omega, ?_⟩
        refine hNi _ (VWp.keep [0,3,4,21] [] ?_); simp only [go_sem, Int.reduceEq, Int.reduceLT, Nat.reduceEqDiff, Nat.reduceAdd, Nat.reduceMul, Nat.reduceLT, Nat.reduceLeDiff, Int.reduceToNat]
        refine vif rfl ⟨fun ht => ?_, (fun hf => by first | cases hf | exact absurd hf (by decide))⟩
        refine vreg tt_ok hF rfl ?_; simp only [go_sem, Int.reduceEq, Int.reduceLT, Nat.reduceEqDiff, Nat.reduceAdd, Nat.reduceMul, Nat.reduceLT, Nat.reduceLeDiff, Int.reduceToNat]
        refine ⟨by simp only [List.length_append, List.length_cons, List.length_nil]; omega, ?_⟩
        rw [hst, heq]
        exact ⟨(), by simp⟩
    intro _ _
    refine vreg tt_ok hF rfl ?_; simp only [go_sem, Int.reduceEq, Int.reduceLT, Nat.reduceEqDiff, Nat.reduceAdd, Nat.reduceMul, Nat.reduceLT, Nat.reduceLeDiff, Int.reduceToNat]
    rw [wrap_i64 (by omega) (by omega)]
    exact ⟨k + 1, by omega, by omega, by simp⟩
  · have hke : k = s.length := by have := of_decide_eq_false hf; omega
    have hl := hFl k
    rw [hke, List.take_length] at hl ⊢
    refine vwp_exit ?_
    simp only [go_sem, Int.reduceEq, Int.reduceLT, Nat.reduceEqDiff, Nat.reduceAdd, Nat.reduceMul, Nat.reduceLT, Nat.reduceLeDiff, Int.reduceToNat]
    refine hNc _ (VWp.keepR [3] [] tt_ok hF rfl fun Nj hNj => ?_); simp only [go_sem, Int.reduceEq, Int.reduceLT, Nat.reduceEqDiff, Nat.reduceAdd, Nat.reduceMul, Nat.reduceLT, Nat.reduceLeDiff, Int.reduceToNat]
    refine ⟨by (try simp only [List.length_cons]); omega, ?_⟩
    refine hNj _ (VWp.keep [2] [] ?_); simp only [go_sem, Int.reduceEq, Int.reduceLT, Nat.reduceEqDiff, Nat.reduceAdd, Nat.reduceMul, Nat.reduceLT, Nat.reduceLeDiff, Int.reduceToNat]
    (refine vwp_ret ?_; simp only [go_sem, Int.reduceEq, Int.reduceLT, Nat.reduceEqDiff, Nat.reduceAdd, Nat.reduceMul, Nat.reduceLT, Nat.reduceLeDiff, Int.reduceToNat]; first | exact LeV.refl _ | exact LeV.of_eq (by simp))
end Go.Proofs.YtedbbinlcdgkoaaGreatDoor

/- Layer 19: lines and part of ConfigLayout. -/
-- FUSE
-- LESS
namespace Go.Proofs.YtedbbinlcdgkoaaGreatDoor
open Go.RowKit Go.Lib
set_option linter.unusedVariables false
set_option linter.unusedSimpArgs false
theorem drop_partL (s : Bs) {f k : Nat} (hf : f ≤ k) (hk : k < s.length) : s.drop f = (s.drop f).take (k - f) ++ s[k] :: s.drop (k + 1) := by
  have h1 : (s.drop f).drop (k - f) = s.drop k := by rw [List.drop_drop]; congr 1; omega
  rw [← List.drop_eq_getElem_cons hk, ← h1, List.take_append_drop]
def linesT (s : Bs) : List Bs := (splitAtC 10 s).dropLast
set_option maxHeartbeats 4000000 in
set_option maxRecDepth 4000 in
theorem lines_B (s : Bs) (hs : s.length ≤ 1000000) : SpecB Tryz.prog 21 [.str s] [] (.own 500011 (linesT s).length) [(500011, .arr 1 9 ((linesT s).map strR))] := by
  refine specB_of tt_ok Tryz.func21 rfl (by decide) Tryz.ntmps21 (congrArg Array.toList Tryz.results21) (by simp) (by decide) rfl (by simp only [go_sem, Int.reduceEq, Int.reduceLT, Nat.reduceEqDiff, Nat.reduceAdd, Nat.reduceMul, Nat.reduceLT, Nat.reduceLeDiff, Int.reduceToNat]) (fun F hF => ?_)
  refine vwp_seq_k fun Na hNa => vreg tt_ok hF rfl ?_; simp only [go_sem, Int.reduceEq, Int.reduceLT, Nat.reduceEqDiff, Nat.reduceAdd, Nat.reduceMul, Nat.reduceLT, Nat.reduceLeDiff, Int.reduceToNat]
  refine hNa _ (VWp.keepR [0] [] tt_ok hF rfl fun Nb hNb => ?_); simp only [go_sem, Int.reduceEq, Int.reduceLT, Nat.reduceEqDiff, Nat.reduceAdd, Nat.reduceMul, Nat.reduceLT, Nat.reduceLeDiff, Int.reduceToNat]
  refine hNb _ (VWp.keep [0,3] [] ?_); simp only [go_sem, Int.reduceEq, Int.reduceLT, Nat.reduceEqDiff, Nat.reduceAdd, Nat.reduceMul, Nat.reduceLT, Nat.reduceLeDiff, Int.reduceToNat]
  refine VWp.adopt 500011 1 9 (x := 3) rfl rfl (by decide) ?_ (closed_of (by simp only [go_sem, Int.reduceEq, Int.reduceLT, Nat.reduceEqDiff, Nat.reduceAdd, Nat.reduceMul, Nat.reduceLT, Nat.reduceLeDiff, Int.reduceToNat]) (by simp only [go_sem, Int.reduceEq, Int.reduceLT, Nat.reduceEqDiff, Nat.reduceAdd, Nat.reduceMul, Nat.reduceLT, Nat.reduceLeDiff, Int.reduceToNat]))
  refine VWp.keep [0,3] [500011] ?_; simp only [go_sem, Int.reduceEq, Int.reduceLT, Nat.reduceEqDiff, Nat.reduceAdd, Nat.reduceMul, Nat.reduceLT, Nat.reduceLeDiff, Int.reduceToNat]
  refine vwp_seq_k fun Nc hNc => vreg tt_ok hF rfl ?_; simp only [go_sem, Int.reduceEq, Int.reduceLT, Nat.reduceEqDiff, Nat.reduceAdd, Nat.reduceMul, Nat.reduceLT, Nat.reduceLeDiff, Int.reduceToNat]
  refine hNc _ (VWp.keep [0,3,4] [500011] ?_); simp only [go_sem, Int.reduceEq, Int.reduceLT, Nat.reduceEqDiff, Nat.reduceAdd, Nat.reduceMul, Nat.reduceLT, Nat.reduceLeDiff, Int.reduceToNat]
  refine vwp_seq_k fun Nd hNd => ?_
  refine vwp_seq_k fun Ne hNe => vreg tt_ok hF rfl ?_; simp only [go_sem, Int.reduceEq, Int.reduceLT, Nat.reduceEqDiff, Nat.reduceAdd, Nat.reduceMul, Nat.reduceLT, Nat.reduceLeDiff, Int.reduceToNat]
  refine hNe _ (VWp.keep [0,3,4,5] [500011] ?_); simp only [go_sem, Int.reduceEq, Int.reduceLT, Nat.reduceEqDiff, Nat.reduceAdd, Nat.reduceMul, Nat.reduceLT, Nat.reduceLeDiff, Int.reduceToNat]
  refine vwp_block ?_
  refine vloop (fun z : Nat × Nat × List Bs => [(0, .str s), (3, .own 500011 z.2.2.length), (4, .int .i64 (z.2.1 : Int)), (5, .int .i64 (z.1 : Int))]) (fun z => [(500011, .arr 1 9 (z.2.2.map strR))])
    (fun z => z.1 ≤ s.length ∧ z.2.1 ≤ z.1 ∧ z.2.2.length ≤ z.1 ∧ (∀ c ∈ (s.drop z.2.1).take (z.1 - z.2.1), c ≠ 10) ∧ splitAtC 10 s = z.2.2 ++ splitAtC 10 (s.drop z.2.1)) (fun z => s.length - z.1) (0, 0, []) ⟨by simp, by simp, by simp, by simp, by simp⟩ (by simp only [List.map_nil, List.length_nil, go_sem, Int.reduceEq, Int.reduceLT, Nat.reduceEqDiff, Nat.reduceAdd, Nat.reduceMul, Nat.reduceLT, Nat.reduceLeDiff, Int.reduceToNat]; try simp) ?_
  rintro ⟨k, f, acc⟩ ⟨hk, hf, ha, hno, hsp⟩
  simp only at hk hf ha hno hsp
  refine vwp_seq_k fun Nf hNf => ?_
  refine vwp_seq_k fun Ng hNg => vreg tt_ok hF rfl ?_; simp only [go_sem, Int.reduceEq, Int.reduceLT, Nat.reduceEqDiff, Nat.reduceAdd, Nat.reduceMul, Nat.reduceLT, Nat.reduceLeDiff, Int.reduceToNat]
  refine hNg _ (VWp.keep [0,3,4,5,9] [500011] ?_); simp only [go_sem, Int.reduceEq, Int.reduceLT, Nat.reduceEqDiff, Nat.reduceAdd, Nat.reduceMul, Nat.reduceLT, Nat.reduceLeDiff, Int.reduceToNat]
  refine vif rfl ⟨fun ht => ?_, fun hfa => ?_⟩
  · have hlt : k < s.length := by have := of_decide_eq_true ht; omega
    have hget : s.getD k 0 = s[k] := by simp [List.getD_eq_getElem?_getD, List.getElem?_eq_getElem hlt]
    have hw : IntKind.i64.wrap ((k : Int) + 1) = ((k + 1 : Nat) : Int) := by rw [wrap_i64 (by omega) (by omega)]; omega
    have hdp := drop_partL s hf hlt
    refine vwp_skip (hNf _ ?_)
    refine vmeet (fun z : Nat × List Bs => [(0, .str s), (3, .own 500011 z.2.length), (4, .int .i64 (z.1 : Int)), (5, .int .i64 (k : Int))]) (fun z => [(500011, .arr 1 9 (z.2.map strR))])
      (fun z => z.1 ≤ k + 1 ∧ z.2.length ≤ k + 1 ∧ (∀ c ∈ (s.drop z.1).take (k + 1 - z.1), c ≠ 10) ∧ splitAtC 10 s = z.2 ++ splitAtC 10 (s.drop z.1)) ?_ ?_
    · refine vwp_block ?_
      by_cases hc : s[k] = 10
      · have e1 : decide ((s[k].toNat : Int) = 10) = true := decide_eq_true (by rw [hc]; rfl)
        refine vwp_seq_k fun Ni hNi => vreg tt_ok hF rfl ?_; simp only [hget, e1, Int.toNat_natCast, go_sem, Int.reduceEq, Int.reduceLT, Nat.reduceEqDiff, Nat.reduceAdd, Nat.reduceMul, Nat.reduceLT, Nat.reduceLeDiff, Int.reduceToNat]
        refine ⟨by omega, ?_⟩
        refine hNi _ (VWp.keep [0,3,4,5,15] [500011] ?_); simp only [go_sem, Int.reduceEq, Int.reduceLT, Nat.reduceEqDiff, Nat.reduceAdd, Nat.reduceMul, Nat.reduceLT, Nat.reduceLeDiff, Int.reduceToNat]
        refine vif rfl ⟨fun ht => ?_, (fun hf => by first | cases hf | exact absurd hf (by decide))⟩
        refine vwp_seq_k fun Nj hNj => vreg tt_ok hF rfl ?_; simp only [Int.toNat_natCast, List.drop_take, go_sem, Int.reduceEq, Int.reduceLT, Nat.reduceEqDiff, Nat.reduceAdd, Nat.reduceMul, Nat.reduceLT, Nat.reduceLeDiff, Int.reduceToNat]
        refine ⟨by omega, ?_⟩
        refine ⟨by omega, ?_⟩
        refine hNj _ (VWp.keep [0,3,5] [500011] ?_); simp only [go_sem, Int.reduceEq, Int.reduceLT, Nat.reduceEqDiff, Nat.reduceAdd, Nat.reduceMul, Nat.reduceLT, Nat.reduceLeDiff, Int.reduceToNat]
        refine vreg tt_ok hF rfl ?_; simp only [go_sem, Int.reduceEq, Int.reduceLT, Nat.reduceEqDiff, Nat.reduceAdd, Nat.reduceMul, Nat.reduceLT, Nat.reduceLeDiff, Int.reduceToNat]
        rw [hw]
        refine ⟨(k + 1, acc ++ [(s.drop f).take (k - f)]), ⟨by simp only; omega, by simp only [List.length_append, List.length_cons, List.length_nil]; omega, by simp, ?_⟩, ?_⟩
        · rw [hsp]
          simp only
          conv => lhs; rw [hdp, hc]
          rw [splitAtC_cons 10 _ _ hno]; simp
        · simp [strR]
      · have e1 : decide ((s[k].toNat : Int) = 10) = false := decide_eq_false (fun q => hc (UInt8.toNat_inj.1 (by show s[k].toNat = 10; omega)))
        refine vwp_seq_k fun Ni hNi => vreg tt_ok hF rfl ?_; simp only [hget, e1, Int.toNat_natCast, go_sem, Int.reduceEq, Int.reduceLT, Nat.reduceEqDiff, Nat.reduceAdd, Nat.reduceMul, Nat.reduceLT, Nat.reduceLeDiff, Int.reduceToNat]
        refine ⟨by omega, ?_⟩
        refine hNi _ (VWp.keep [0,3,4,5,15] [500011] ?_); simp only [go_sem, Int.reduceEq, Int.reduceLT, Nat.reduceEqDiff, Nat.reduceAdd, Nat.reduceMul, Nat.reduceLT, Nat.reduceLeDiff, Int.reduceToNat]
        refine vif rfl ⟨(fun hf => by first | cases hf | exact absurd hf (by decide)), fun ht => ?_⟩
        refine vwp_skip ?_
        refine ⟨(f, acc), ⟨by simp only; omega, by simp only; omega, ?_, hsp⟩, by simp only [go_sem, Int.reduceEq, Int.reduceLT, Nat.reduceEqDiff, Nat.reduceAdd, Nat.reduceMul, Nat.reduceLT, Nat.reduceLeDiff, Int.reduceToNat]; try simp⟩
        intro c hc2
        rw [show k + 1 - f = (k - f) + 1 by omega, List.take_add_one] at hc2
        rcases List.mem_append.1 hc2 with q | q
        · exact hno c q
        · have : (s.drop f)[k - f]? = some s[k] := by rw [List.getElem?_drop, show f + (k - f) = k by omega, List.getElem?_eq_getElem hlt]
          rw [this] at q
          simp at q
          rw [q]; exact hc
    rintro ⟨f2, acc2⟩ ⟨h1, h2, h3, h4⟩
    simp only at h1 h2 h3 h4
    refine vreg tt_ok hF rfl ?_; simp only [go_sem, Int.reduceEq, Int.reduceLT, Nat.reduceEqDiff, Nat.reduceAdd, Nat.reduceMul, Nat.reduceLT, Nat.reduceLeDiff, Int.reduceToNat]
    rw [hw]
    exact ⟨(k + 1, f2, acc2), ⟨by simp only; omega, by simp only; omega, by simp only; omega, h3, h4⟩, by simp only; omega, by simp only [go_sem, Int.reduceEq, Int.reduceLT, Nat.reduceEqDiff, Nat.reduceAdd, Nat.reduceMul, Nat.reduceLT, Nat.reduceLeDiff, Int.reduceToNat]; try simp⟩
  · have hke : k = s.length := by have := of_decide_eq_false hfa; omega
    have hall : (s.drop f).take (k - f) = s.drop f := List.take_of_length_le (by rw [List.length_drop]; omega)
    rw [hall] at hno
    rw [splitAtC_last 10 _ hno] at hsp
    have hlt : linesT s = acc := by unfold linesT; rw [hsp]; simp
    refine vwp_exit ?_
    simp only [go_sem, Int.reduceEq, Int.reduceLT, Nat.reduceEqDiff, Nat.reduceAdd, Nat.reduceMul, Nat.reduceLT, Nat.reduceLeDiff, Int.reduceToNat]
    refine hNd _ (VWp.keepR [3] [500011] tt_ok hF rfl fun Nk hNk => ?_); simp only [go_sem, Int.reduceEq, Int.reduceLT, Nat.reduceEqDiff, Nat.reduceAdd, Nat.reduceMul, Nat.reduceLT, Nat.reduceLeDiff, Int.reduceToNat]
    refine hNk _ (VWp.keep [2] [500011] ?_); simp only [go_sem, Int.reduceEq, Int.reduceLT, Nat.reduceEqDiff, Nat.reduceAdd, Nat.reduceMul, Nat.reduceLT, Nat.reduceLeDiff, Int.reduceToNat]
    refine vwp_ret ?_
    simp only [List.length_map, go_sem, Int.reduceEq, Int.reduceLT, Nat.reduceEqDiff, Nat.reduceAdd, Nat.reduceMul, Nat.reduceLT, Nat.reduceLeDiff, Int.reduceToNat]
    exact ⟨by rw [hlt]; exact LeV.refl _, by rw [hlt]⟩
set_option maxHeartbeats 4000000 in
set_option maxRecDepth 4000 in
theorem part_spec (s : Bs) (hs : s.length ≤ 1000000) : Spec Tryz.prog 24 [.str s] (.bool (headT s)) := by
  refine spec_of tt_ok Tryz.func24 rfl (by decide) Tryz.ntmps24 (congrArg Array.toList Tryz.results24) (by simp) (by decide) rfl rfl (fun F hF => ?_)
  refine vwp_seq_k fun Na hNa => vreg tt_ok hF rfl ?_; simp only [go_sem, Int.reduceEq, Int.reduceLT, Nat.reduceEqDiff, Nat.reduceAdd, Nat.reduceMul, Nat.reduceLT, Nat.reduceLeDiff, Int.reduceToNat]
  refine hNa _ (VWp.keep [0] [] ?_); simp only [go_sem, Int.reduceEq, Int.reduceLT, Nat.reduceEqDiff, Nat.reduceAdd, Nat.reduceMul, Nat.reduceLT, Nat.reduceLeDiff, Int.reduceToNat]
  refine vwp_seq_k fun Nb hNb => ?_
  refine vwp_block ?_
  refine vloop (fun z : Bs => [(0, .str z)]) (fun _ => []) (fun z => z.length ≤ s.length ∧ s.dropWhile (· == 32) = z.dropWhile (· == 32)) (fun z => z.length) s ⟨by omega, rfl⟩ (by simp only [go_sem, Int.reduceEq, Int.reduceLT, Nat.reduceEqDiff, Nat.reduceAdd, Nat.reduceMul, Nat.reduceLT, Nat.reduceLeDiff, Int.reduceToNat]) ?_
  rintro z ⟨hz, hd⟩
  refine vwp_seq_k fun Nc hNc => ?_
  by_cases hgo : ∃ r, z = 32 :: r
  · obtain ⟨r, rfl⟩ := hgo
    have f2 : decide ((0 : Int) < ((r.length + 1 : Nat) : Int)) = true := decide_eq_true (by omega)
    refine vwp_seq_k fun Nd hNd => vreg tt_ok hF rfl ?_; simp only [f2, go_sem, Int.reduceEq, Int.reduceLT, Nat.reduceEqDiff, Nat.reduceAdd, Nat.reduceMul, Nat.reduceLT, Nat.reduceLeDiff, Int.reduceToNat]
    refine ⟨by omega, ?_⟩
    refine hNd _ (VWp.keep [0,10] [] ?_); simp only [go_sem, Int.reduceEq, Int.reduceLT, Nat.reduceEqDiff, Nat.reduceAdd, Nat.reduceMul, Nat.reduceLT, Nat.reduceLeDiff, Int.reduceToNat]
    refine vif rfl ⟨fun ht => ?_, (fun hf => by first | cases hf | exact absurd hf (by decide))⟩
    refine vwp_skip (hNc _ ?_)
    refine vwp_block ?_
    refine vreg tt_ok hF rfl ?_; simp only [go_sem, Int.reduceEq, Int.reduceLT, Nat.reduceEqDiff, Nat.reduceAdd, Nat.reduceMul, Nat.reduceLT, Nat.reduceLeDiff, Int.reduceToNat]
    refine ⟨by omega, ?_⟩
    rw [List.length_cons] at hz
    exact ⟨r, ⟨by omega, by rw [hd]; rfl⟩, by simp, by simp⟩
  · cases z with
    | nil =>
      have hz1 : ([] : Bs).dropWhile (· == 32) = [] := rfl
      refine vwp_seq_k fun Nd hNd => vreg tt_ok hF rfl ?_; simp only [go_sem, Int.reduceEq, Int.reduceLT, Nat.reduceEqDiff, Nat.reduceAdd, Nat.reduceMul, Nat.reduceLT, Nat.reduceLeDiff, Int.reduceToNat]
      refine hNd _ (VWp.keep [0,10] [] ?_); simp only [go_sem, Int.reduceEq, Int.reduceLT, Nat.reduceEqDiff, Nat.reduceAdd, Nat.reduceMul, Nat.reduceLT, Nat.reduceLeDiff, Int.reduceToNat]
      refine vif rfl ⟨(fun hf => by first | cases hf | exact absurd hf (by decide)), fun ht => ?_⟩
      refine vwp_exit ?_
      simp only [go_sem, Int.reduceEq, Int.reduceLT, Nat.reduceEqDiff, Nat.reduceAdd, Nat.reduceMul, Nat.reduceLT, Nat.reduceLeDiff, Int.reduceToNat]
      refine hNb _ (VWp.keep [0] [] ?_); simp only [go_sem, Int.reduceEq, Int.reduceLT, Nat.reduceEqDiff, Nat.reduceAdd, Nat.reduceMul, Nat.reduceLT, Nat.reduceLeDiff, Int.reduceToNat]
      have g2 : headT s = false := by unfold headT; rw [hd]; rfl
      refine vwp_seq_k fun Ne hNe => vreg tt_ok hF rfl ?_; simp only [go_sem, Int.reduceEq, Int.reduceLT, Nat.reduceEqDiff, Nat.reduceAdd, Nat.reduceMul, Nat.reduceLT, Nat.reduceLeDiff, Int.reduceToNat]
      refine hNe _ (VWp.keep [2] [] ?_); simp only [go_sem, Int.reduceEq, Int.reduceLT, Nat.reduceEqDiff, Nat.reduceAdd, Nat.reduceMul, Nat.reduceLT, Nat.reduceLeDiff, Int.reduceToNat]
      refine vwp_ret ?_
      simp only [go_sem, Int.reduceEq, Int.reduceLT, Nat.reduceEqDiff, Nat.reduceAdd, Nat.reduceMul, Nat.reduceLT, Nat.reduceLeDiff, Int.reduceToNat]
      rw [g2]
      exact LeV.refl _
    | cons a r =>
      have ha : a ≠ 32 := fun e => hgo ⟨r, by rw [e]⟩
      have hz1 : (a :: r).dropWhile (· == 32) = a :: r := by rw [List.dropWhile_cons, if_neg (by simpa using ha)]
      have f2 : decide ((0 : Int) < ((r.length + 1 : Nat) : Int)) = true := decide_eq_true (by omega)
      have f3 : decide ((a.toNat : Int) = 32) = false := decide_eq_false (fun q => ha (UInt8.toNat_inj.1 (by show a.toNat = 32; omega)))
      refine vwp_seq_k fun Nd hNd => vreg tt_ok hF rfl ?_; simp only [f2, f3, go_sem, Int.reduceEq, Int.reduceLT, Nat.reduceEqDiff, Nat.reduceAdd, Nat.reduceMul, Nat.reduceLT, Nat.reduceLeDiff, Int.reduceToNat]
      refine ⟨by omega, ?_⟩
      refine hNd _ (VWp.keep [0,10] [] ?_); simp only [go_sem, Int.reduceEq, Int.reduceLT, Nat.reduceEqDiff, Nat.reduceAdd, Nat.reduceMul, Nat.reduceLT, Nat.reduceLeDiff, Int.reduceToNat]
      refine vif rfl ⟨(fun hf => by first | cases hf | exact absurd hf (by decide)), fun ht => ?_⟩
      refine vwp_exit ?_
      simp only [go_sem, Int.reduceEq, Int.reduceLT, Nat.reduceEqDiff, Nat.reduceAdd, Nat.reduceMul, Nat.reduceLT, Nat.reduceLeDiff, Int.reduceToNat]
      refine hNb _ (VWp.keep [0] [] ?_); simp only [go_sem, Int.reduceEq, Int.reduceLT, Nat.reduceEqDiff, Nat.reduceAdd, Nat.reduceMul, Nat.reduceLT, Nat.reduceLeDiff, Int.reduceToNat]
      by_cases hl : 4 < (a :: r).length
      · have hl' := hl
        rw [List.length_cons] at hl'
        have g1 : decide ((4 : Int) < ((r.length + 1 : Nat) : Int)) = true := decide_eq_true (by omega)
        have g2 : headT s = decide ((a :: r).take 5 = [80, 65, 82, 84, 32]) := by unfold headT; rw [hd, hz1, decide_eq_true hl, Bool.true_and]
        refine vwp_seq_k fun Ne hNe => vreg tt_ok hF rfl ?_; simp only [g1, go_sem, Int.reduceEq, Int.reduceLT, Nat.reduceEqDiff, Nat.reduceAdd, Nat.reduceMul, Nat.reduceLT, Nat.reduceLeDiff, Int.reduceToNat]
        refine ⟨⟨by omega, by omega, by omega⟩, ?_⟩
        refine hNe _ (VWp.keep [2] [] ?_); simp only [go_sem, Int.reduceEq, Int.reduceLT, Nat.reduceEqDiff, Nat.reduceAdd, Nat.reduceMul, Nat.reduceLT, Nat.reduceLeDiff, Int.reduceToNat]
        refine vwp_ret ?_
        simp only [go_sem, Int.reduceEq, Int.reduceLT, Nat.reduceEqDiff, Nat.reduceAdd, Nat.reduceMul, Nat.reduceLT, Nat.reduceLeDiff, Int.reduceToNat]
        rw [g2]
        exact LeV.refl _
      · have hl' := hl
        rw [List.length_cons] at hl'
        have g1 : decide ((4 : Int) < ((r.length + 1 : Nat) : Int)) = false := decide_eq_false (by omega)
        have g2 : headT s = false := by unfold headT; rw [hd, hz1, decide_eq_false hl, Bool.false_and]
        refine vwp_seq_k fun Ne hNe => vreg tt_ok hF rfl ?_; simp only [g1, go_sem, Int.reduceEq, Int.reduceLT, Nat.reduceEqDiff, Nat.reduceAdd, Nat.reduceMul, Nat.reduceLT, Nat.reduceLeDiff, Int.reduceToNat]
        refine hNe _ (VWp.keep [2] [] ?_); simp only [go_sem, Int.reduceEq, Int.reduceLT, Nat.reduceEqDiff, Nat.reduceAdd, Nat.reduceMul, Nat.reduceLT, Nat.reduceLeDiff, Int.reduceToNat]
        refine vwp_ret ?_
        simp only [go_sem, Int.reduceEq, Int.reduceLT, Nat.reduceEqDiff, Nat.reduceAdd, Nat.reduceMul, Nat.reduceLT, Nat.reduceLeDiff, Int.reduceToNat]
        rw [g2]
        exact LeV.refl _
end Go.Proofs.YtedbbinlcdgkoaaGreatDoor

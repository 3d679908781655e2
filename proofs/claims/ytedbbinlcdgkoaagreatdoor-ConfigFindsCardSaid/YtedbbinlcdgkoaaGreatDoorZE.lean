import Derived.Outline
import Derived.Test.YtedbbinlcdgkoaaGreatDoorZD
/- Layer 19: ConfigFinds. -/
-- SIMP: beq_self_eq_true, Bool.and_self, ofVal_nilFn
namespace Go.Proofs.YtedbbinlcdgkoaaGreatDoor
open Go.RowKit Go.Lib
set_option linter.unusedVariables false
set_option linter.unusedSimpArgs false
theorem find_step (us : List UniT) (p : UniT → Bool) {j : Nat} (h : j < us.length) : findT (us.drop j) p = if p us[j] then (us[j], true) else findT (us.drop (j + 1)) p := by
  unfold findT
  rw [List.drop_eq_getElem_cons h, List.find?_cons]
  cases hp : p us[j] <;> rfl
def looksT (us : List UniT) (a : Int) (t : Bs) (j : Nat) (U D : UniT) (x y : Bool) : Prop := findT (us.drop j) (fun x => decide (x.addr = a)) = (U, x) ∧ findT (us.drop j) (volT t) = (D, y)
set_option maxHeartbeats 16000000 in
set_option maxRecDepth 10000 in
theorem ConfigFinds_spec (c0 : CfgT) (st : Nat) (hst : st < 256) (ps : List UInt8) (us : List UniT) (addr : Int) (s : Bs) (n : Nat) (hn : n < 256) :
    Spec Tryz.prog 8 [.agg (cfgC c0), .agg (seedC st ps us), .int .i64 addr, .str s, .int .u8 n] (.bool true) := by
  have hmake := Make_spec st hst ps us
  obtain ⟨c2, hc2⟩ : ∃ c, makeT st ps us = c := ⟨_, rfl⟩
  have hval := make_valid st ps us
  rw [hc2] at hmake hval
  have hl2 := (val_of hval).n
  have hfew := few_spec c0
  obtain ⟨c1, hc1⟩ : ∃ c, fewT c0 = c := ⟨_, rfl⟩
  have hl1 : c1.us.length ≤ 20 := by rw [← hc1]; unfold fewT; simp only [List.length_map, List.length_take]; omega
  rw [hc1] at hfew
  unfold cfgC at hmake hfew
  unfold seedC at hmake ⊢
  unfold cfgC
  have hn0 : IntKind.i64.wrap (n : Int) = (n : Int) := wrap_i64 (by omega) (by omega)
  refine spec_of tt_ok Tryz.func8 rfl (by decide) Tryz.ntmps8 (congrArg Array.toList Tryz.results8) (by simp) (by decide) rfl rfl (fun F hF => ?_)
  refine vwp_seq_k fun Na hNa => vreg tt_ok hF rfl ?_; simp only [go_sem, Int.reduceEq, Int.reduceNe, Int.reduceLT, Int.reduceLE, Nat.reduceEqDiff, Nat.reduceAdd, Nat.reduceMul, Nat.reduceLT, Nat.reduceLeDiff, Nat.reduceSub, reduceCtorEq, reduceIte, Int.reduceToNat, beq_self_eq_true, Bool.and_self, ofVal_nilFn]   -- R0
  refine hNa _ (VWp.keep [2,3,4,5,6] [5,6] ?_); simp only [go_sem, Int.reduceEq, Int.reduceNe, Int.reduceLT, Int.reduceLE, Nat.reduceEqDiff, Nat.reduceAdd, Nat.reduceMul, Nat.reduceLT, Nat.reduceLeDiff, Nat.reduceSub, reduceCtorEq, reduceIte, Int.reduceToNat, beq_self_eq_true, Bool.and_self, ofVal_nilFn]
  refine vmeet (fun t : Bs => [(2, .int .i64 addr), (3, .str t), (4, .int .u8 n), (5, .ptr 5 0), (6, .ptr 6 0)]) (fun _ => [(5, .box 25 [.sl 5 (c0.us.map uniC), .int .i64 c0.store, .sl 2 (c0.ps.map parC)]), (6, .box 28 [.int .u8 st, .sl 1 (bytesR ps), .sl 5 (us.map uniC)])]) (fun _ => True) ?_ ?_
  · by_cases hbig : 10 < s.length
    · have f1 : decide ((s.length : Int) > 10) = true := decide_eq_true (by omega)
      have f2 : decide ((10 : Int) < s.length) = true := decide_eq_true (by omega)
      refine vwp_seq_k fun Nc hNc => vreg tt_ok hF rfl ?_; simp only [go_sem, Int.reduceEq, Int.reduceNe, Int.reduceLT, Int.reduceLE, Nat.reduceEqDiff, Nat.reduceAdd, Nat.reduceMul, Nat.reduceLT, Nat.reduceLeDiff, Nat.reduceSub, reduceCtorEq, reduceIte, Int.reduceToNat, beq_self_eq_true, Bool.and_self, ofVal_nilFn]
      simp only [f1, f2, go_sem, Int.reduceEq, Int.reduceNe, Int.reduceLT, Int.reduceLE, Nat.reduceEqDiff, Nat.reduceAdd, Nat.reduceMul, Nat.reduceLT, Nat.reduceLeDiff, Nat.reduceSub, reduceCtorEq, reduceIte, Int.reduceToNat, beq_self_eq_true, Bool.and_self, ofVal_nilFn]
      refine hNc _ (VWp.keep [2,3,4,5,6,28] [5,6] ?_); simp only [go_sem, Int.reduceEq, Int.reduceNe, Int.reduceLT, Int.reduceLE, Nat.reduceEqDiff, Nat.reduceAdd, Nat.reduceMul, Nat.reduceLT, Nat.reduceLeDiff, Nat.reduceSub, reduceCtorEq, reduceIte, Int.reduceToNat, beq_self_eq_true, Bool.and_self, ofVal_nilFn]
      refine vif rfl ⟨fun ht => ?_, (fun hf => by first | cases hf | exact absurd hf (by decide))⟩
      refine vreg tt_ok hF rfl ?_; simp only [go_sem, Int.reduceEq, Int.reduceNe, Int.reduceLT, Int.reduceLE, Nat.reduceEqDiff, Nat.reduceAdd, Nat.reduceMul, Nat.reduceLT, Nat.reduceLeDiff, Nat.reduceSub, reduceCtorEq, reduceIte, Int.reduceToNat, beq_self_eq_true, Bool.and_self, ofVal_nilFn]
      refine ⟨by omega, ?_⟩
      exact ⟨_, rfl⟩
    · have f1 : decide ((s.length : Int) > 10) = false := decide_eq_false (by omega)
      have f2 : decide ((10 : Int) < s.length) = false := decide_eq_false (by omega)
      refine vwp_seq_k fun Nc hNc => vreg tt_ok hF rfl ?_; simp only [go_sem, Int.reduceEq, Int.reduceNe, Int.reduceLT, Int.reduceLE, Nat.reduceEqDiff, Nat.reduceAdd, Nat.reduceMul, Nat.reduceLT, Nat.reduceLeDiff, Nat.reduceSub, reduceCtorEq, reduceIte, Int.reduceToNat, beq_self_eq_true, Bool.and_self, ofVal_nilFn]
      simp only [f1, f2, go_sem, Int.reduceEq, Int.reduceNe, Int.reduceLT, Int.reduceLE, Nat.reduceEqDiff, Nat.reduceAdd, Nat.reduceMul, Nat.reduceLT, Nat.reduceLeDiff, Nat.reduceSub, reduceCtorEq, reduceIte, Int.reduceToNat, beq_self_eq_true, Bool.and_self, ofVal_nilFn]
      refine hNc _ (VWp.keep [2,3,4,5,6,28] [5,6] ?_); simp only [go_sem, Int.reduceEq, Int.reduceNe, Int.reduceLT, Int.reduceLE, Nat.reduceEqDiff, Nat.reduceAdd, Nat.reduceMul, Nat.reduceLT, Nat.reduceLeDiff, Nat.reduceSub, reduceCtorEq, reduceIte, Int.reduceToNat, beq_self_eq_true, Bool.and_self, ofVal_nilFn]
      refine vif rfl ⟨(fun hf => by first | cases hf | exact absurd hf (by decide)), fun ht => ?_⟩
      refine vwp_skip ?_
      exact ⟨s, by simp only [go_sem, Int.reduceEq, Int.reduceNe, Int.reduceLT, Int.reduceLE, Nat.reduceEqDiff, Nat.reduceAdd, Nat.reduceMul, Nat.reduceLT, Nat.reduceLeDiff, Nat.reduceSub, reduceCtorEq, reduceIte, Int.reduceToNat, beq_self_eq_true, Bool.and_self, ofVal_nilFn]; try trivial⟩
  intro t _
  refine vwp_seq_k fun Nd hNd => ?_
  refine vwp_seq_k fun Ne hNe => vregd tt_ok mixed hF rfl (by kernel_rfl) (by kernel_rfl) ?_; simp only [go_sem, Int.reduceEq, Int.reduceNe, Int.reduceLT, Int.reduceLE, Nat.reduceEqDiff, Nat.reduceAdd, Nat.reduceMul, Nat.reduceLT, Nat.reduceLeDiff, Nat.reduceSub, reduceCtorEq, reduceIte, Int.reduceToNat, beq_self_eq_true, Bool.and_self, ofVal_nilFn]
  refine .inl ⟨_, hfew, ?_⟩; try simp only [go_sem, Int.reduceEq, Int.reduceNe, Int.reduceLT, Int.reduceLE, Nat.reduceEqDiff, Nat.reduceAdd, Nat.reduceMul, Nat.reduceLT, Nat.reduceLeDiff, Nat.reduceSub, reduceCtorEq, reduceIte, Int.reduceToNat, beq_self_eq_true, Bool.and_self, ofVal_nilFn]
  refine .inl ⟨_, hmake, ?_⟩; try simp only [go_sem, Int.reduceEq, Int.reduceNe, Int.reduceLT, Int.reduceLE, Nat.reduceEqDiff, Nat.reduceAdd, Nat.reduceMul, Nat.reduceLT, Nat.reduceLeDiff, Nat.reduceSub, reduceCtorEq, reduceIte, Int.reduceToNat, beq_self_eq_true, Bool.and_self, ofVal_nilFn]
  refine hNe _ (VWp.keep [2,3,4,35,36] [] ?_); simp only [go_sem, Int.reduceEq, Int.reduceNe, Int.reduceLT, Int.reduceLE, Nat.reduceEqDiff, Nat.reduceAdd, Nat.reduceMul, Nat.reduceLT, Nat.reduceLeDiff, Nat.reduceSub, reduceCtorEq, reduceIte, Int.reduceToNat, beq_self_eq_true, Bool.and_self, ofVal_nilFn]
  refine vwp_block ?_
  refine vloop (fun k : Nat => [(2, .int .i64 addr), (3, .str t), (4, .int .u8 n), (35, .agg [.sl 5 (c1.us.map uniC), .int .i64 c1.store, .sl 2 (c1.ps.map parC), .sl 5 (c2.us.map uniC), .int .i64 c2.store, .sl 2 (c2.ps.map parC)]), (36, .int .i64 (k : Int))]) (fun k => []) (fun k => k ≤ 2) (fun k => 2 - k) 0 (by omega) (by simp only [go_sem, Int.reduceEq, Int.reduceNe, Int.reduceLT, Int.reduceLE, Nat.reduceEqDiff, Nat.reduceAdd, Nat.reduceMul, Nat.reduceLT, Nat.reduceLeDiff, Nat.reduceSub, reduceCtorEq, reduceIte, Int.reduceToNat, beq_self_eq_true, Bool.and_self, ofVal_nilFn]; try rfl) ?_
  intro k hk
  refine vwp_seq_k fun Nf hNf => vreg tt_ok hF rfl ?_; simp only [go_sem, Int.reduceEq, Int.reduceNe, Int.reduceLT, Int.reduceLE, Nat.reduceEqDiff, Nat.reduceAdd, Nat.reduceMul, Nat.reduceLT, Nat.reduceLeDiff, Nat.reduceSub, reduceCtorEq, reduceIte, Int.reduceToNat, beq_self_eq_true, Bool.and_self, ofVal_nilFn]   -- R4
  refine hNf _ (VWp.keep [2,3,4,35,36,37] [] ?_); simp only [go_sem, Int.reduceEq, Int.reduceNe, Int.reduceLT, Int.reduceLE, Nat.reduceEqDiff, Nat.reduceAdd, Nat.reduceMul, Nat.reduceLT, Nat.reduceLeDiff, Nat.reduceSub, reduceCtorEq, reduceIte, Int.reduceToNat, beq_self_eq_true, Bool.and_self, ofVal_nilFn]
  refine vwp_seq_k fun Ng hNg => ?_
  refine vif rfl ⟨fun ht => ?_, fun hf => ?_⟩
  · have hk2 : k < 2 := by have := of_decide_eq_true ht; omega
    refine vwp_skip (hNg _ ?_)
    refine vwp_seq_k fun Nh hNh => ?_
    refine vwp_block ?_
    refine vmeet (fun d : CfgT => [(2, .int .i64 addr), (3, .str t), (4, .int .u8 n), (12, .ptr 12 0), (35, .agg [.sl 5 (c1.us.map uniC), .int .i64 c1.store, .sl 2 (c1.ps.map parC), .sl 5 (c2.us.map uniC), .int .i64 c2.store, .sl 2 (c2.ps.map parC)]), (36, .int .i64 (k : Int))]) (fun d => [(12, .box 25 [.sl 5 (d.us.map uniC), .int .i64 d.store, .sl 2 (d.ps.map parC)])]) (fun d => d.us.length ≤ 20) ?_ ?_
    · rcases (show k = 0 ∨ k = 1 by omega) with rfl | rfl
      · refine vreg tt_ok hF rfl ?_; simp only [go_sem, Int.reduceEq, Int.reduceNe, Int.reduceLT, Int.reduceLE, Nat.reduceEqDiff, Nat.reduceAdd, Nat.reduceMul, Nat.reduceLT, Nat.reduceLeDiff, Nat.reduceSub, reduceCtorEq, reduceIte, Int.reduceToNat, beq_self_eq_true, Bool.and_self, ofVal_nilFn]
        refine ⟨c1, hl1, by simp only [go_sem, Int.reduceEq, Int.reduceNe, Int.reduceLT, Int.reduceLE, Nat.reduceEqDiff, Nat.reduceAdd, Nat.reduceMul, Nat.reduceLT, Nat.reduceLeDiff, Nat.reduceSub, reduceCtorEq, reduceIte, Int.reduceToNat, beq_self_eq_true, Bool.and_self, ofVal_nilFn]; try trivial⟩
      · refine vreg tt_ok hF rfl ?_; simp only [go_sem, Int.reduceEq, Int.reduceNe, Int.reduceLT, Int.reduceLE, Nat.reduceEqDiff, Nat.reduceAdd, Nat.reduceMul, Nat.reduceLT, Nat.reduceLeDiff, Nat.reduceSub, reduceCtorEq, reduceIte, Int.reduceToNat, beq_self_eq_true, Bool.and_self, ofVal_nilFn]
        refine ⟨c2, by omega, by simp only [go_sem, Int.reduceEq, Int.reduceNe, Int.reduceLT, Int.reduceLE, Nat.reduceEqDiff, Nat.reduceAdd, Nat.reduceMul, Nat.reduceLT, Nat.reduceLeDiff, Nat.reduceSub, reduceCtorEq, reduceIte, Int.reduceToNat, beq_self_eq_true, Bool.and_self, ofVal_nilFn]; try trivial⟩
    intro d hd
    refine vwp_seq_k fun Nj hNj => vreg tt_ok hF rfl ?_; simp only [go_sem, Int.reduceEq, Int.reduceNe, Int.reduceLT, Int.reduceLE, Nat.reduceEqDiff, Nat.reduceAdd, Nat.reduceMul, Nat.reduceLT, Nat.reduceLeDiff, Nat.reduceSub, reduceCtorEq, reduceIte, Int.reduceToNat, beq_self_eq_true, Bool.and_self, ofVal_nilFn]   -- R6
    refine hNj _ (VWp.keepR [2,3,4,12,13,14,35,36] [12] tt_ok hF rfl fun Nk hNk => ?_); simp only [go_sem, Int.reduceEq, Int.reduceNe, Int.reduceLT, Int.reduceLE, Nat.reduceEqDiff, Nat.reduceAdd, Nat.reduceMul, Nat.reduceLT, Nat.reduceLeDiff, Nat.reduceSub, reduceCtorEq, reduceIte, Int.reduceToNat, beq_self_eq_true, Bool.and_self, ofVal_nilFn]   -- R7
    refine hNk _ (VWp.keep [2,3,4,12,13,14,15,35,36] [12] ?_); simp only [go_sem, Int.reduceEq, Int.reduceNe, Int.reduceLT, Int.reduceLE, Nat.reduceEqDiff, Nat.reduceAdd, Nat.reduceMul, Nat.reduceLT, Nat.reduceLeDiff, Nat.reduceSub, reduceCtorEq, reduceIte, Int.reduceToNat, beq_self_eq_true, Bool.and_self, ofVal_nilFn]
    refine vwp_block ?_
    refine vloop (fun z : Nat × Int × Bs => [(2, .int .i64 addr), (3, .str t), (4, .int .u8 n), (12, .ptr 12 0), (13, .int .i64 z.2.1), (14, .str z.2.2), (15, .int .i64 (z.1 : Int)), (35, .agg [.sl 5 (c1.us.map uniC), .int .i64 c1.store, .sl 2 (c1.ps.map parC), .sl 5 (c2.us.map uniC), .int .i64 c2.store, .sl 2 (c2.ps.map parC)]), (36, .int .i64 (k : Int))]) (fun z => [(12, .box 25 [.sl 5 (d.us.map uniC), .int .i64 d.store, .sl 2 (d.ps.map parC)])]) (fun z => z.1 ≤ 2) (fun z => 2 - z.1) (0, addr, t) (by simp) (by simp only [go_sem, Int.reduceEq, Int.reduceNe, Int.reduceLT, Int.reduceLE, Nat.reduceEqDiff, Nat.reduceAdd, Nat.reduceMul, Nat.reduceLT, Nat.reduceLeDiff, Nat.reduceSub, reduceCtorEq, reduceIte, Int.reduceToNat, beq_self_eq_true, Bool.and_self, ofVal_nilFn]; try trivial) ?_
    rintro ⟨m, a, w⟩ hm
    simp only at hm
    refine vwp_seq_k fun Nl hNl => ?_
    refine vwp_seq_k fun Nm hNm => vreg tt_ok hF rfl ?_; simp only [go_sem, Int.reduceEq, Int.reduceNe, Int.reduceLT, Int.reduceLE, Nat.reduceEqDiff, Nat.reduceAdd, Nat.reduceMul, Nat.reduceLT, Nat.reduceLeDiff, Nat.reduceSub, reduceCtorEq, reduceIte, Int.reduceToNat, beq_self_eq_true, Bool.and_self, ofVal_nilFn]   -- R8
    refine hNm _ (VWp.keep [2,3,4,12,13,14,15,35,36,42] [12] ?_); simp only [go_sem, Int.reduceEq, Int.reduceNe, Int.reduceLT, Int.reduceLE, Nat.reduceEqDiff, Nat.reduceAdd, Nat.reduceMul, Nat.reduceLT, Nat.reduceLeDiff, Nat.reduceSub, reduceCtorEq, reduceIte, Int.reduceToNat, beq_self_eq_true, Bool.and_self, ofVal_nilFn]
    refine vif rfl ⟨fun ht => ?_, fun hf => ?_⟩
    · have hm2 : m < 2 := by have := of_decide_eq_true ht; omega
      have hfi := Find_spec d a (by omega)
      have hvo := Volume_spec d w (by omega)
      obtain ⟨⟨fu, fb⟩, hfr⟩ : ∃ r, findT d.us (fun x => decide (x.addr = a)) = r := ⟨_, rfl⟩
      obtain ⟨⟨gu, gb⟩, hgr⟩ : ∃ r, findT d.us (volT w) = r := ⟨_, rfl⟩
      rw [hfr] at hfi
      rw [hgr] at hvo
      unfold findR cfgC at hfi hvo
      simp only [agg_uni] at hfi hvo
      refine vwp_skip (hNl _ ?_)
      refine vwp_seq_k fun Nn hNn => ?_
      refine vwp_block ?_
      refine vwp_seq_k fun No hNo => vreg tt_ok hF rfl ?_; simp only [go_sem, Int.reduceEq, Int.reduceNe, Int.reduceLT, Int.reduceLE, Nat.reduceEqDiff, Nat.reduceAdd, Nat.reduceMul, Nat.reduceLT, Nat.reduceLeDiff, Nat.reduceSub, reduceCtorEq, reduceIte, Int.reduceToNat, beq_self_eq_true, Bool.and_self, ofVal_nilFn]   -- R10
      refine .inl ⟨_, hfi, ?_⟩; try simp only [go_sem, Int.reduceEq, Int.reduceNe, Int.reduceLT, Int.reduceLE, Nat.reduceEqDiff, Nat.reduceAdd, Nat.reduceMul, Nat.reduceLT, Nat.reduceLeDiff, Nat.reduceSub, reduceCtorEq, reduceIte, Int.reduceToNat, beq_self_eq_true, Bool.and_self, ofVal_nilFn]
      refine hNo _ (VWp.keepR [2,3,4,12,13,14,15,16,17,35,36] [12,16] tt_ok hF rfl fun Np hNp => ?_); simp only [go_sem, Int.reduceEq, Int.reduceNe, Int.reduceLT, Int.reduceLE, Nat.reduceEqDiff, Nat.reduceAdd, Nat.reduceMul, Nat.reduceLT, Nat.reduceLeDiff, Nat.reduceSub, reduceCtorEq, reduceIte, Int.reduceToNat, beq_self_eq_true, Bool.and_self, ofVal_nilFn]   -- R11
      refine .inl ⟨_, hvo, ?_⟩; try simp only [go_sem, Int.reduceEq, Int.reduceNe, Int.reduceLT, Int.reduceLE, Nat.reduceEqDiff, Nat.reduceAdd, Nat.reduceMul, Nat.reduceLT, Nat.reduceLeDiff, Nat.reduceSub, reduceCtorEq, reduceIte, Int.reduceToNat, beq_self_eq_true, Bool.and_self, ofVal_nilFn]
      refine hNp _ (VWp.keepR [2,3,4,12,13,14,15,16,17,18,19,35,36] [12,16,18] tt_ok hF rfl fun Nq hNq => ?_); simp only [go_sem, Int.reduceEq, Int.reduceNe, Int.reduceLT, Int.reduceLE, Nat.reduceEqDiff, Nat.reduceAdd, Nat.reduceMul, Nat.reduceLT, Nat.reduceLeDiff, Nat.reduceSub, reduceCtorEq, reduceIte, Int.reduceToNat, beq_self_eq_true, Bool.and_self, ofVal_nilFn]   -- R12
      refine hNq _ (VWp.keepR [2,3,4,12,13,14,15,16,17,18,19,20,21,35,36] [12,16,18,20] tt_ok hF rfl fun Nr hNr => ?_); simp only [go_sem, Int.reduceEq, Int.reduceNe, Int.reduceLT, Int.reduceLE, Nat.reduceEqDiff, Nat.reduceAdd, Nat.reduceMul, Nat.reduceLT, Nat.reduceLeDiff, Nat.reduceSub, reduceCtorEq, reduceIte, Int.reduceToNat, beq_self_eq_true, Bool.and_self, ofVal_nilFn]   -- R13
      refine hNr _ (VWp.keep [2,3,4,12,13,14,15,16,17,18,19,20,21,22,23,35,36] [12,16,18,20,22] ?_); simp only [go_sem, Int.reduceEq, Int.reduceNe, Int.reduceLT, Int.reduceLE, Nat.reduceEqDiff, Nat.reduceAdd, Nat.reduceMul, Nat.reduceLT, Nat.reduceLeDiff, Nat.reduceSub, reduceCtorEq, reduceIte, Int.reduceToNat, beq_self_eq_true, Bool.and_self, ofVal_nilFn]
      refine vwp_seq_k fun Ns hNs => ?_
      have hw1 : IntKind.i64.wrap ((d.us.length : Int) - 1) = (d.us.length : Int) - 1 := wrap_i64 (by omega) (by omega)
      refine vwp_seq_k fun Nt hNt => vreg tt_ok hF rfl ?_; simp only [go_sem, Int.reduceEq, Int.reduceNe, Int.reduceLT, Int.reduceLE, Nat.reduceEqDiff, Nat.reduceAdd, Nat.reduceMul, Nat.reduceLT, Nat.reduceLeDiff, Nat.reduceSub, reduceCtorEq, reduceIte, Int.reduceToNat, beq_self_eq_true, Bool.and_self, ofVal_nilFn]   -- R14
      simp only [List.length_map, hw1, go_sem, Int.reduceEq, Int.reduceNe, Int.reduceLT, Int.reduceLE, Nat.reduceEqDiff, Nat.reduceAdd, Nat.reduceMul, Nat.reduceLT, Nat.reduceLeDiff, Nat.reduceSub, reduceCtorEq, reduceIte, Int.reduceToNat, beq_self_eq_true, Bool.and_self, ofVal_nilFn]
      refine hNt _ (VWp.keep [2,3,4,12,13,14,15,16,17,18,19,20,21,22,23,24,35,36] [12,16,18,20,22] ?_); simp only [go_sem, Int.reduceEq, Int.reduceNe, Int.reduceLT, Int.reduceLE, Nat.reduceEqDiff, Nat.reduceAdd, Nat.reduceMul, Nat.reduceLT, Nat.reduceLeDiff, Nat.reduceSub, reduceCtorEq, reduceIte, Int.reduceToNat, beq_self_eq_true, Bool.and_self, ofVal_nilFn]
      refine vwp_block ?_
      refine vloop (fun z : Nat × UniT × Bool × UniT × Bool => [(2, .int .i64 addr), (3, .str t), (4, .int .u8 n), (12, .ptr 12 0), (13, .int .i64 a), (14, .str w), (15, .int .i64 (m : Int)), (16, .ptr 16 0), (17, .bool fb), (18, .ptr 18 0), (19, .bool gb), (20, .ptr 20 0), (21, .bool z.2.2.1), (22, .ptr 22 0), (23, .bool z.2.2.2.2), (24, .int .i64 ((z.1 : Int) - 1)), (35, .agg [.sl 5 (c1.us.map uniC), .int .i64 c1.store, .sl 2 (c1.ps.map parC), .sl 5 (c2.us.map uniC), .int .i64 c2.store, .sl 2 (c2.ps.map parC)]), (36, .int .i64 (k : Int))])
        (fun z => [(12, .box 25 [.sl 5 (d.us.map uniC), .int .i64 d.store, .sl 2 (d.ps.map parC)]), (16, .box 58 [.int .i64 fu.addr, .int .i64 fu.kind, .str fu.ser, .int .i64 fu.cyl, .int .i64 fu.head]), (18, .box 58 [.int .i64 gu.addr, .int .i64 gu.kind, .str gu.ser, .int .i64 gu.cyl, .int .i64 gu.head]), (20, .box 58 [.int .i64 z.2.1.addr, .int .i64 z.2.1.kind, .str z.2.1.ser, .int .i64 z.2.1.cyl, .int .i64 z.2.1.head]), (22, .box 58 [.int .i64 z.2.2.2.1.addr, .int .i64 z.2.2.2.1.kind, .str z.2.2.2.1.ser, .int .i64 z.2.2.2.1.cyl, .int .i64 z.2.2.2.1.head])])
        (fun z => z.1 ≤ d.us.length ∧ findT (d.us.drop z.1) (fun x => decide (x.addr = a)) = (z.2.1, z.2.2.1) ∧ findT (d.us.drop z.1) (volT w) = (z.2.2.2.1, z.2.2.2.2)) (fun z => z.1) (d.us.length, zeroU, false, zeroU, false) ⟨by simp, by simp [findT], by simp [findT]⟩ (by simp only [zeroU, go_sem, Int.reduceEq, Int.reduceNe, Int.reduceLT, Int.reduceLE, Nat.reduceEqDiff, Nat.reduceAdd, Nat.reduceMul, Nat.reduceLT, Nat.reduceLeDiff, Nat.reduceSub, reduceCtorEq, reduceIte, Int.reduceToNat, beq_self_eq_true, Bool.and_self, ofVal_nilFn]; try trivial) ?_
      rintro ⟨j, wu, wb, vu, vb⟩ ⟨hj, hw, hv⟩
      simp only at hj hw hv
      refine vwp_seq_k fun Nu hNu => ?_
      refine vwp_seq_k fun Nv hNv => vreg tt_ok hF rfl ?_; simp only [go_sem, Int.reduceEq, Int.reduceNe, Int.reduceLT, Int.reduceLE, Nat.reduceEqDiff, Nat.reduceAdd, Nat.reduceMul, Nat.reduceLT, Nat.reduceLeDiff, Nat.reduceSub, reduceCtorEq, reduceIte, Int.reduceToNat, beq_self_eq_true, Bool.and_self, ofVal_nilFn]   -- R15
      refine hNv _ (VWp.keep [2,3,4,12,13,14,15,16,17,18,19,20,21,22,23,24,35,36,64] [12,16,18,20,22] ?_); simp only [go_sem, Int.reduceEq, Int.reduceNe, Int.reduceLT, Int.reduceLE, Nat.reduceEqDiff, Nat.reduceAdd, Nat.reduceMul, Nat.reduceLT, Nat.reduceLeDiff, Nat.reduceSub, reduceCtorEq, reduceIte, Int.reduceToNat, beq_self_eq_true, Bool.and_self, ofVal_nilFn]
      refine vif rfl ⟨fun ht => ?_, fun hf => ?_⟩
      · have hj0 : 1 ≤ j := by have := of_decide_eq_true ht; omega
        have hq : j - 1 < d.us.length := by omega
        have hget := uni_row hq
        have s1 := find_step d.us (fun x => decide (x.addr = a)) hq
        have s2 := find_step d.us (volT w) hq
        rw [Nat.sub_add_cancel hj0] at s1 s2
        rw [hw] at s1
        rw [hv] at s2
        obtain ⟨x, hx⟩ : ∃ x, d.us[j - 1] = x := ⟨_, rfl⟩
        rw [hx] at hget s1 s2
        have hjn : ((j : Int) - 1).toNat = j - 1 := by omega
        refine vwp_skip (hNu _ ?_)
        refine vmeet (fun z : (UniT × Bool) × (UniT × Bool) => [(2, .int .i64 addr), (3, .str t), (4, .int .u8 n), (12, .ptr 12 0), (13, .int .i64 a), (14, .str w), (15, .int .i64 (m : Int)), (16, .ptr 16 0), (17, .bool fb), (18, .ptr 18 0), (19, .bool gb), (20, .ptr 20 0), (21, .bool z.1.2), (22, .ptr 22 0), (23, .bool z.2.2), (24, .int .i64 ((j : Int) - 1)), (35, .agg [.sl 5 (c1.us.map uniC), .int .i64 c1.store, .sl 2 (c1.ps.map parC), .sl 5 (c2.us.map uniC), .int .i64 c2.store, .sl 2 (c2.ps.map parC)]), (36, .int .i64 (k : Int))])
          (fun z => [(12, .box 25 [.sl 5 (d.us.map uniC), .int .i64 d.store, .sl 2 (d.ps.map parC)]), (16, .box 58 [.int .i64 fu.addr, .int .i64 fu.kind, .str fu.ser, .int .i64 fu.cyl, .int .i64 fu.head]), (18, .box 58 [.int .i64 gu.addr, .int .i64 gu.kind, .str gu.ser, .int .i64 gu.cyl, .int .i64 gu.head]), (20, .box 58 [.int .i64 z.1.1.addr, .int .i64 z.1.1.kind, .str z.1.1.ser, .int .i64 z.1.1.cyl, .int .i64 z.1.1.head]), (22, .box 58 [.int .i64 z.2.1.addr, .int .i64 z.2.1.kind, .str z.2.1.ser, .int .i64 z.2.1.cyl, .int .i64 z.2.1.head])]) (fun z => findT (d.us.drop (j - 1)) (fun x => decide (x.addr = a)) = z.1 ∧ findT (d.us.drop (j - 1)) (volT w) = z.2) ?_ ?_
        · refine vwp_block ?_
          refine vwp_seq_k fun Nx hNx => vreg tt_ok hF rfl ?_; simp only [go_sem, Int.reduceEq, Int.reduceNe, Int.reduceLT, Int.reduceLE, Nat.reduceEqDiff, Nat.reduceAdd, Nat.reduceMul, Nat.reduceLT, Nat.reduceLeDiff, Nat.reduceSub, reduceCtorEq, reduceIte, Int.reduceToNat, beq_self_eq_true, Bool.and_self, ofVal_nilFn]   -- R17
          simp only [hjn, hget, List.length_map, go_sem, Int.reduceEq, Int.reduceNe, Int.reduceLT, Int.reduceLE, Nat.reduceEqDiff, Nat.reduceAdd, Nat.reduceMul, Nat.reduceLT, Nat.reduceLeDiff, Nat.reduceSub, reduceCtorEq, reduceIte, Int.reduceToNat, beq_self_eq_true, Bool.and_self, ofVal_nilFn]
          refine ⟨⟨by omega, by omega⟩, ?_⟩
          refine hNx _ (VWp.keep [2,3,4,12,13,14,15,16,17,18,19,20,21,22,23,24,25,35,36] [12,16,18,20,22,25] ?_); simp only [go_sem, Int.reduceEq, Int.reduceNe, Int.reduceLT, Int.reduceLE, Nat.reduceEqDiff, Nat.reduceAdd, Nat.reduceMul, Nat.reduceLT, Nat.reduceLeDiff, Nat.reduceSub, reduceCtorEq, reduceIte, Int.reduceToNat, beq_self_eq_true, Bool.and_self, ofVal_nilFn]
          refine vmeet (fun z : UniT × Bool => [(2, .int .i64 addr), (3, .str t), (4, .int .u8 n), (12, .ptr 12 0), (13, .int .i64 a), (14, .str w), (15, .int .i64 (m : Int)), (16, .ptr 16 0), (17, .bool fb), (18, .ptr 18 0), (19, .bool gb), (20, .ptr 20 0), (21, .bool z.2), (22, .ptr 22 0), (23, .bool vb), (24, .int .i64 ((j : Int) - 1)), (25, .ptr 25 0), (35, .agg [.sl 5 (c1.us.map uniC), .int .i64 c1.store, .sl 2 (c1.ps.map parC), .sl 5 (c2.us.map uniC), .int .i64 c2.store, .sl 2 (c2.ps.map parC)]), (36, .int .i64 (k : Int))])
            (fun z => [(12, .box 25 [.sl 5 (d.us.map uniC), .int .i64 d.store, .sl 2 (d.ps.map parC)]), (16, .box 58 [.int .i64 fu.addr, .int .i64 fu.kind, .str fu.ser, .int .i64 fu.cyl, .int .i64 fu.head]), (18, .box 58 [.int .i64 gu.addr, .int .i64 gu.kind, .str gu.ser, .int .i64 gu.cyl, .int .i64 gu.head]), (20, .box 58 [.int .i64 z.1.addr, .int .i64 z.1.kind, .str z.1.ser, .int .i64 z.1.cyl, .int .i64 z.1.head]), (22, .box 58 [.int .i64 vu.addr, .int .i64 vu.kind, .str vu.ser, .int .i64 vu.cyl, .int .i64 vu.head]), (25, .box 58 [.int .i64 x.addr, .int .i64 x.kind, .str x.ser, .int .i64 x.cyl, .int .i64 x.head])]) (fun z => findT (d.us.drop (j - 1)) (fun x => decide (x.addr = a)) = (z.1, z.2)) ?_ ?_
          · rcases hp : decide (x.addr = a) with _ | _
            · rw [hp] at s1
              refine vwp_seq_k fun Nz hNz => vreg tt_ok hF rfl ?_; simp only [go_sem, Int.reduceEq, Int.reduceNe, Int.reduceLT, Int.reduceLE, Nat.reduceEqDiff, Nat.reduceAdd, Nat.reduceMul, Nat.reduceLT, Nat.reduceLeDiff, Nat.reduceSub, reduceCtorEq, reduceIte, Int.reduceToNat, beq_self_eq_true, Bool.and_self, ofVal_nilFn]
              simp only [hp, go_sem, Int.reduceEq, Int.reduceNe, Int.reduceLT, Int.reduceLE, Nat.reduceEqDiff, Nat.reduceAdd, Nat.reduceMul, Nat.reduceLT, Nat.reduceLeDiff, Nat.reduceSub, reduceCtorEq, reduceIte, Int.reduceToNat, beq_self_eq_true, Bool.and_self, ofVal_nilFn]
              refine hNz _ (VWp.keep [2,3,4,12,13,14,15,16,17,18,19,20,21,22,23,24,25,35,36,75] [12,16,18,20,22,25] ?_); simp only [go_sem, Int.reduceEq, Int.reduceNe, Int.reduceLT, Int.reduceLE, Nat.reduceEqDiff, Nat.reduceAdd, Nat.reduceMul, Nat.reduceLT, Nat.reduceLeDiff, Nat.reduceSub, reduceCtorEq, reduceIte, Int.reduceToNat, beq_self_eq_true, Bool.and_self, ofVal_nilFn]
              refine vif rfl ⟨(fun hf => by first | cases hf | exact absurd hf (by decide)), fun ht => ?_⟩
              refine vwp_skip ?_
              exact ⟨(wu, wb), s1, by simp only [go_sem, Int.reduceEq, Int.reduceNe, Int.reduceLT, Int.reduceLE, Nat.reduceEqDiff, Nat.reduceAdd, Nat.reduceMul, Nat.reduceLT, Nat.reduceLeDiff, Nat.reduceSub, reduceCtorEq, reduceIte, Int.reduceToNat, beq_self_eq_true, Bool.and_self, ofVal_nilFn]; try trivial⟩
            · rw [hp] at s1
              refine vwp_seq_k fun Nz hNz => vreg tt_ok hF rfl ?_; simp only [go_sem, Int.reduceEq, Int.reduceNe, Int.reduceLT, Int.reduceLE, Nat.reduceEqDiff, Nat.reduceAdd, Nat.reduceMul, Nat.reduceLT, Nat.reduceLeDiff, Nat.reduceSub, reduceCtorEq, reduceIte, Int.reduceToNat, beq_self_eq_true, Bool.and_self, ofVal_nilFn]
              simp only [hp, go_sem, Int.reduceEq, Int.reduceNe, Int.reduceLT, Int.reduceLE, Nat.reduceEqDiff, Nat.reduceAdd, Nat.reduceMul, Nat.reduceLT, Nat.reduceLeDiff, Nat.reduceSub, reduceCtorEq, reduceIte, Int.reduceToNat, beq_self_eq_true, Bool.and_self, ofVal_nilFn]
              refine hNz _ (VWp.keep [2,3,4,12,13,14,15,16,17,18,19,20,21,22,23,24,25,35,36,75] [12,16,18,20,22,25] ?_); simp only [go_sem, Int.reduceEq, Int.reduceNe, Int.reduceLT, Int.reduceLE, Nat.reduceEqDiff, Nat.reduceAdd, Nat.reduceMul, Nat.reduceLT, Nat.reduceLeDiff, Nat.reduceSub, reduceCtorEq, reduceIte, Int.reduceToNat, beq_self_eq_true, Bool.and_self, ofVal_nilFn]
              refine vif rfl ⟨fun ht => ?_, (fun hf => by first | cases hf | exact absurd hf (by decide))⟩
              refine vreg tt_ok hF rfl ?_; simp only [go_sem, Int.reduceEq, Int.reduceNe, Int.reduceLT, Int.reduceLE, Nat.reduceEqDiff, Nat.reduceAdd, Nat.reduceMul, Nat.reduceLT, Nat.reduceLeDiff, Nat.reduceSub, reduceCtorEq, reduceIte, Int.reduceToNat, beq_self_eq_true, Bool.and_self, ofVal_nilFn]
              exact ⟨(x, true), s1, by simp only [go_sem, Int.reduceEq, Int.reduceNe, Int.reduceLT, Int.reduceLE, Nat.reduceEqDiff, Nat.reduceAdd, Nat.reduceMul, Nat.reduceLT, Nat.reduceLeDiff, Nat.reduceSub, reduceCtorEq, reduceIte, Int.reduceToNat, beq_self_eq_true, Bool.and_self, ofVal_nilFn]; try trivial⟩
          rintro ⟨wu2, wb2⟩ hw2
          simp only at hw2
          have hvol : volT w x = (decide (x.ser = w) && (decide (x.kind = 4) || decide (x.kind = 5))) := rfl
          rcases h1 : decide (x.ser = w) with _ | _ <;> rcases h2 : decide (x.kind = 4) with _ | _ <;> rcases h3 : decide (x.kind = 5) with _ | _
          all_goals
            rw [h1, h2, h3] at hvol
            rw [hvol] at s2
            refine vwp_seq_k fun Naa hNaa => vreg tt_ok hF rfl ?_; simp only [go_sem, Int.reduceEq, Int.reduceNe, Int.reduceLT, Int.reduceLE, Nat.reduceEqDiff, Nat.reduceAdd, Nat.reduceMul, Nat.reduceLT, Nat.reduceLeDiff, Nat.reduceSub, reduceCtorEq, reduceIte, Int.reduceToNat, beq_self_eq_true, Bool.and_self, ofVal_nilFn]
            simp only [h1, h2, h3, go_sem, Int.reduceEq, Int.reduceNe, Int.reduceLT, Int.reduceLE, Nat.reduceEqDiff, Nat.reduceAdd, Nat.reduceMul, Nat.reduceLT, Nat.reduceLeDiff, Nat.reduceSub, reduceCtorEq, reduceIte, Int.reduceToNat, beq_self_eq_true, Bool.and_self, ofVal_nilFn]
            refine hNaa _ (VWp.keep [2,3,4,12,13,14,15,16,17,18,19,20,21,22,23,24,25,35,36,90] [12,16,18,20,22,25] ?_); simp only [go_sem, Int.reduceEq, Int.reduceNe, Int.reduceLT, Int.reduceLE, Nat.reduceEqDiff, Nat.reduceAdd, Nat.reduceMul, Nat.reduceLT, Nat.reduceLeDiff, Nat.reduceSub, reduceCtorEq, reduceIte, Int.reduceToNat, beq_self_eq_true, Bool.and_self, ofVal_nilFn]
          all_goals first
            | (refine vif rfl ⟨(fun hf => by first | cases hf | exact absurd hf (by decide)), fun ht => ?_⟩
               refine vwp_skip ?_
               exact ⟨((wu2, wb2), (vu, vb)), ⟨hw2, s2⟩, by simp only [go_sem, Int.reduceEq, Int.reduceNe, Int.reduceLT, Int.reduceLE, Nat.reduceEqDiff, Nat.reduceAdd, Nat.reduceMul, Nat.reduceLT, Nat.reduceLeDiff, Nat.reduceSub, reduceCtorEq, reduceIte, Int.reduceToNat, beq_self_eq_true, Bool.and_self, ofVal_nilFn]; try trivial⟩)
            | (refine vif rfl ⟨fun ht => ?_, (fun hf => by first | cases hf | exact absurd hf (by decide))⟩
               refine vreg tt_ok hF rfl ?_
               simp only [go_sem, Int.reduceEq, Int.reduceNe, Int.reduceLT, Int.reduceLE, Nat.reduceEqDiff, Nat.reduceAdd, Nat.reduceMul, Nat.reduceLT, Nat.reduceLeDiff, Nat.reduceSub, reduceCtorEq, reduceIte, Int.reduceToNat, beq_self_eq_true, Bool.and_self, ofVal_nilFn]
               exact ⟨((wu2, wb2), (x, true)), ⟨hw2, s2⟩, by simp only [go_sem, Int.reduceEq, Int.reduceNe, Int.reduceLT, Int.reduceLE, Nat.reduceEqDiff, Nat.reduceAdd, Nat.reduceMul, Nat.reduceLT, Nat.reduceLeDiff, Nat.reduceSub, reduceCtorEq, reduceIte, Int.reduceToNat, beq_self_eq_true, Bool.and_self, ofVal_nilFn]; try trivial⟩)
        rintro ⟨⟨wu2, wb2⟩, ⟨vu2, vb2⟩⟩ ⟨hw2, hv2⟩
        simp only at hw2 hv2
        refine vreg tt_ok hF rfl ?_; simp only [go_sem, Int.reduceEq, Int.reduceNe, Int.reduceLT, Int.reduceLE, Nat.reduceEqDiff, Nat.reduceAdd, Nat.reduceMul, Nat.reduceLT, Nat.reduceLeDiff, Nat.reduceSub, reduceCtorEq, reduceIte, Int.reduceToNat, beq_self_eq_true, Bool.and_self, ofVal_nilFn]   -- R16
        rw [wrap_i64 (by omega) (by omega)]
        exact ⟨(j - 1, wu2, wb2, vu2, vb2), ⟨by simp only; omega, hw2, hv2⟩, by simp only; omega, by simp only [go_sem, Int.reduceEq, Int.reduceNe, Int.reduceLT, Int.reduceLE, Nat.reduceEqDiff, Nat.reduceAdd, Nat.reduceMul, Nat.reduceLT, Nat.reduceLeDiff, Nat.reduceSub, reduceCtorEq, reduceIte, Int.reduceToNat, beq_self_eq_true, Bool.and_self, ofVal_nilFn]; try (first | trivial | (simp; omega))⟩
      · have hj0 : j = 0 := by have := of_decide_eq_false hf; omega
        subst hj0
        rw [List.drop_zero, hfr] at hw
        rw [List.drop_zero, hgr] at hv
        injection hw with q1 q2
        injection hv with q3 q4
        subst q1; subst q2; subst q3; subst q4
        refine vwp_exit ?_
        simp only [go_sem, Int.reduceEq, Int.reduceNe, Int.reduceLT, Int.reduceLE, Nat.reduceEqDiff, Nat.reduceAdd, Nat.reduceMul, Nat.reduceLT, Nat.reduceLeDiff, Nat.reduceSub, reduceCtorEq, reduceIte, Int.reduceToNat, beq_self_eq_true, Bool.and_self, ofVal_nilFn]
        refine hNs _ (VWp.keep [2,3,4,12,13,14,15,16,17,18,19,20,21,22,23,35,36] [12,16,18,20,22] ?_); simp only [go_sem, Int.reduceEq, Int.reduceNe, Int.reduceLT, Int.reduceLE, Nat.reduceEqDiff, Nat.reduceAdd, Nat.reduceMul, Nat.reduceLT, Nat.reduceLeDiff, Nat.reduceSub, reduceCtorEq, reduceIte, Int.reduceToNat, beq_self_eq_true, Bool.and_self, ofVal_nilFn]
        refine vwp_seq_k fun Nab hNab => ?_
        refine vwp_seq_k fun Nac hNac => vreg tt_ok hF rfl ?_; simp only [go_sem, Int.reduceEq, Int.reduceNe, Int.reduceLT, Int.reduceLE, Nat.reduceEqDiff, Nat.reduceAdd, Nat.reduceMul, Nat.reduceLT, Nat.reduceLeDiff, Nat.reduceSub, reduceCtorEq, reduceIte, Int.reduceToNat, beq_self_eq_true, Bool.and_self, ofVal_nilFn]   -- R22
        try simp only [decide_true, Bool.and_true, bne_self_eq_false, Bool.not_true, go_sem, Int.reduceEq, Int.reduceNe, Int.reduceLT, Int.reduceLE, Nat.reduceEqDiff, Nat.reduceAdd, Nat.reduceMul, Nat.reduceLT, Nat.reduceLeDiff, Nat.reduceSub, reduceCtorEq, reduceIte, Int.reduceToNat, beq_self_eq_true, Bool.and_self, ofVal_nilFn]
        refine hNac _ (VWp.keep [2,3,4,12,13,14,15,35,36,109] [12] ?_); simp only [go_sem, Int.reduceEq, Int.reduceNe, Int.reduceLT, Int.reduceLE, Nat.reduceEqDiff, Nat.reduceAdd, Nat.reduceMul, Nat.reduceLT, Nat.reduceLeDiff, Nat.reduceSub, reduceCtorEq, reduceIte, Int.reduceToNat, beq_self_eq_true, Bool.and_self, ofVal_nilFn]
        refine vif rfl ⟨(fun hf => by first | cases hf | exact absurd hf (by decide)), fun ht => ?_⟩
        refine vwp_skip (hNab _ ?_)
        by_cases hne : 0 < d.us.length
        · have f1 : decide ((d.us.length : Int) > 0) = true := decide_eq_true (by omega)
          have f2 : decide ((0 : Int) < d.us.length) = true := decide_eq_true (by omega)
          refine vwp_seq_k fun Nae hNae => vreg tt_ok hF rfl ?_; simp only [go_sem, Int.reduceEq, Int.reduceNe, Int.reduceLT, Int.reduceLE, Nat.reduceEqDiff, Nat.reduceAdd, Nat.reduceMul, Nat.reduceLT, Nat.reduceLeDiff, Nat.reduceSub, reduceCtorEq, reduceIte, Int.reduceToNat, beq_self_eq_true, Bool.and_self, ofVal_nilFn]   -- R24
          simp only [List.length_map, f1, f2, go_sem, Int.reduceEq, Int.reduceNe, Int.reduceLT, Int.reduceLE, Nat.reduceEqDiff, Nat.reduceAdd, Nat.reduceMul, Nat.reduceLT, Nat.reduceLeDiff, Nat.reduceSub, reduceCtorEq, reduceIte, Int.reduceToNat, beq_self_eq_true, Bool.and_self, ofVal_nilFn]
          refine hNae _ (VWp.keep [2,3,4,12,13,14,15,35,36,113] [12] ?_); simp only [go_sem, Int.reduceEq, Int.reduceNe, Int.reduceLT, Int.reduceLE, Nat.reduceEqDiff, Nat.reduceAdd, Nat.reduceMul, Nat.reduceLT, Nat.reduceLeDiff, Nat.reduceSub, reduceCtorEq, reduceIte, Int.reduceToNat, beq_self_eq_true, Bool.and_self, ofVal_nilFn]
          refine vif rfl ⟨fun ht => ?_, (fun hf => by first | cases hf | exact absurd hf (by decide))⟩
          have hmod := Nat.mod_lt n hne
          have e1 : (n : Int).tmod (d.us.length : Int) = ((n % d.us.length : Nat) : Int) := by rw [tmod_pos (by omega)]; rfl
          have hget := uni_row hmod
          refine vregd tt_ok mixed hF rfl (by kernel_rfl) (by kernel_rfl) ?_
          simp only [List.length_map, hn0, e1, hget, Int.toNat_natCast, go_sem, Int.reduceEq, Int.reduceNe, Int.reduceLT, Int.reduceLE, Nat.reduceEqDiff, Nat.reduceAdd, Nat.reduceMul, Nat.reduceLT, Nat.reduceLeDiff, Nat.reduceSub, reduceCtorEq, reduceIte, Int.reduceToNat, beq_self_eq_true, Bool.and_self, ofVal_nilFn]
          refine ⟨by omega, ⟨by omega, by omega⟩, by omega, ⟨by omega, by omega⟩, ?_⟩
          refine hNn _ (VWp.keep [2,3,4,12,13,14,15,35,36] [12] ?_); simp only [go_sem, Int.reduceEq, Int.reduceNe, Int.reduceLT, Int.reduceLE, Nat.reduceEqDiff, Nat.reduceAdd, Nat.reduceMul, Nat.reduceLT, Nat.reduceLeDiff, Nat.reduceSub, reduceCtorEq, reduceIte, Int.reduceToNat, beq_self_eq_true, Bool.and_self, ofVal_nilFn]
          refine vreg tt_ok hF rfl ?_; simp only [go_sem, Int.reduceEq, Int.reduceNe, Int.reduceLT, Int.reduceLE, Nat.reduceEqDiff, Nat.reduceAdd, Nat.reduceMul, Nat.reduceLT, Nat.reduceLeDiff, Nat.reduceSub, reduceCtorEq, reduceIte, Int.reduceToNat, beq_self_eq_true, Bool.and_self, ofVal_nilFn]
          rw [wrap_i64 (by omega) (by omega)]
          exact ⟨(m + 1, _, _), by simp only; omega, by simp only; omega, rfl, rfl, by simp⟩
        · have f1 : decide ((d.us.length : Int) > 0) = false := decide_eq_false (by omega)
          have f2 : decide ((0 : Int) < d.us.length) = false := decide_eq_false (by omega)
          refine vwp_seq_k fun Nae hNae => vreg tt_ok hF rfl ?_; simp only [go_sem, Int.reduceEq, Int.reduceNe, Int.reduceLT, Int.reduceLE, Nat.reduceEqDiff, Nat.reduceAdd, Nat.reduceMul, Nat.reduceLT, Nat.reduceLeDiff, Nat.reduceSub, reduceCtorEq, reduceIte, Int.reduceToNat, beq_self_eq_true, Bool.and_self, ofVal_nilFn]   -- R24
          simp only [List.length_map, f1, f2, go_sem, Int.reduceEq, Int.reduceNe, Int.reduceLT, Int.reduceLE, Nat.reduceEqDiff, Nat.reduceAdd, Nat.reduceMul, Nat.reduceLT, Nat.reduceLeDiff, Nat.reduceSub, reduceCtorEq, reduceIte, Int.reduceToNat, beq_self_eq_true, Bool.and_self, ofVal_nilFn]
          refine hNae _ (VWp.keep [2,3,4,12,13,14,15,35,36,113] [12] ?_); simp only [go_sem, Int.reduceEq, Int.reduceNe, Int.reduceLT, Int.reduceLE, Nat.reduceEqDiff, Nat.reduceAdd, Nat.reduceMul, Nat.reduceLT, Nat.reduceLeDiff, Nat.reduceSub, reduceCtorEq, reduceIte, Int.reduceToNat, beq_self_eq_true, Bool.and_self, ofVal_nilFn]
          refine vif rfl ⟨(fun hf => by first | cases hf | exact absurd hf (by decide)), fun ht => ?_⟩
          refine vwp_skip (hNn _ ?_)
          refine vreg tt_ok hF rfl ?_; simp only [go_sem, Int.reduceEq, Int.reduceNe, Int.reduceLT, Int.reduceLE, Nat.reduceEqDiff, Nat.reduceAdd, Nat.reduceMul, Nat.reduceLT, Nat.reduceLeDiff, Nat.reduceSub, reduceCtorEq, reduceIte, Int.reduceToNat, beq_self_eq_true, Bool.and_self, ofVal_nilFn]
          rw [wrap_i64 (by omega) (by omega)]
          exact ⟨(m + 1, a, w), by simp only; omega, by simp only; omega, by simp only [go_sem, Int.reduceEq, Int.reduceNe, Int.reduceLT, Int.reduceLE, Nat.reduceEqDiff, Nat.reduceAdd, Nat.reduceMul, Nat.reduceLT, Nat.reduceLeDiff, Nat.reduceSub, reduceCtorEq, reduceIte, Int.reduceToNat, beq_self_eq_true, Bool.and_self, ofVal_nilFn]; try (first | trivial | simp)⟩
    · refine vwp_exit ?_
      simp only [go_sem, Int.reduceEq, Int.reduceNe, Int.reduceLT, Int.reduceLE, Nat.reduceEqDiff, Nat.reduceAdd, Nat.reduceMul, Nat.reduceLT, Nat.reduceLeDiff, Nat.reduceSub, reduceCtorEq, reduceIte, Int.reduceToNat, beq_self_eq_true, Bool.and_self, ofVal_nilFn]
      refine hNh _ (VWp.keep [2,3,4,35,36] [] ?_); simp only [go_sem, Int.reduceEq, Int.reduceNe, Int.reduceLT, Int.reduceLE, Nat.reduceEqDiff, Nat.reduceAdd, Nat.reduceMul, Nat.reduceLT, Nat.reduceLeDiff, Nat.reduceSub, reduceCtorEq, reduceIte, Int.reduceToNat, beq_self_eq_true, Bool.and_self, ofVal_nilFn]
      refine vreg tt_ok hF rfl ?_; simp only [go_sem, Int.reduceEq, Int.reduceNe, Int.reduceLT, Int.reduceLE, Nat.reduceEqDiff, Nat.reduceAdd, Nat.reduceMul, Nat.reduceLT, Nat.reduceLeDiff, Nat.reduceSub, reduceCtorEq, reduceIte, Int.reduceToNat, beq_self_eq_true, Bool.and_self, ofVal_nilFn]   -- R26
      rw [wrap_i64 (by omega) (by omega)]
      exact ⟨k + 1, by omega, by omega, by simp⟩
  · refine vwp_exit ?_
    simp only [go_sem, Int.reduceEq, Int.reduceNe, Int.reduceLT, Int.reduceLE, Nat.reduceEqDiff, Nat.reduceAdd, Nat.reduceMul, Nat.reduceLT, Nat.reduceLeDiff, Nat.reduceSub, reduceCtorEq, reduceIte, Int.reduceToNat, beq_self_eq_true, Bool.and_self, ofVal_nilFn]
    refine hNd _ (VWp.keepR [] [] tt_ok hF rfl fun Naf hNaf => ?_); simp only [go_sem, Int.reduceEq, Int.reduceNe, Int.reduceLT, Int.reduceLE, Nat.reduceEqDiff, Nat.reduceAdd, Nat.reduceMul, Nat.reduceLT, Nat.reduceLeDiff, Nat.reduceSub, reduceCtorEq, reduceIte, Int.reduceToNat, beq_self_eq_true, Bool.and_self, ofVal_nilFn]   -- R27
    refine .inl ⟨_, works_spec, ?_⟩; try simp only [go_sem, Int.reduceEq, Int.reduceNe, Int.reduceLT, Int.reduceLE, Nat.reduceEqDiff, Nat.reduceAdd, Nat.reduceMul, Nat.reduceLT, Nat.reduceLeDiff, Nat.reduceSub, reduceCtorEq, reduceIte, Int.reduceToNat, beq_self_eq_true, Bool.and_self, ofVal_nilFn]
    refine hNaf _ (VWp.keep [10] [] ?_); simp only [go_sem, Int.reduceEq, Int.reduceNe, Int.reduceLT, Int.reduceLE, Nat.reduceEqDiff, Nat.reduceAdd, Nat.reduceMul, Nat.reduceLT, Nat.reduceLeDiff, Nat.reduceSub, reduceCtorEq, reduceIte, Int.reduceToNat, beq_self_eq_true, Bool.and_self, ofVal_nilFn]
    (refine vwp_ret ?_; simp only [go_sem, Int.reduceEq, Int.reduceNe, Int.reduceLT, Int.reduceLE, Nat.reduceEqDiff, Nat.reduceAdd, Nat.reduceMul, Nat.reduceLT, Nat.reduceLeDiff, Nat.reduceSub, reduceCtorEq, reduceIte, Int.reduceToNat, beq_self_eq_true, Bool.and_self, ofVal_nilFn]; first | exact LeV.refl _ | exact LeV.of_eq (by simp))
end Go.Proofs.YtedbbinlcdgkoaaGreatDoor

import Derived.Outline
import Derived.Test.YtldkmclfhjcicaaGreatDoorWE
import Derived.Test.YtldkmclfhjcicaaGreatDoorVN
/- The law's Prog, Ref, entry. -/
-- SIMP: opV, opC
namespace Go.Proofs.YtldkmclfhjcicaaGreatDoor
open Go.RowKit
set_option linter.unusedVariables false
set_option linter.unusedSimpArgs false
def toI (n : Int) : Int := if n < 9223372036854775808 then n else n - 18446744073709551616
def opC (o : OpS) : List V := [.int .u8 (o.kind : Int), .int .u8 (o.which : Int), .int .i64 (toI o.n), .int .i64 o.unit, .str o.serial]
structure OpOk (o : OpS) : Prop where
  k : o.kind < 256
  w : o.which < 256
  n0 : 0 ≤ o.n
  n1 : o.n < 18446744073709551616
  u0 : -9223372036854775808 ≤ o.unit
  u1 : o.unit ≤ 9223372036854775807
  s : o.serial.length ≤ 9223372036854775807
theorem toI_u {o : OpS} (h : OpOk o) : IntKind.u64.wrap (toI o.n) = o.n := by
  have := h.n0; have := h.n1
  rw [wrap_u64]; unfold toI; split <;> omega
theorem toI_mod {o : OpS} (h : OpOk o) (m : Int) (h0 : 0 < m) (h1 : m ≤ 4096) : IntKind.i64.wrap ((IntKind.u64.wrap (toI o.n)).tmod m) = o.n % m ∧ IntKind.i64.wrap (1 + o.n % m) = 1 + o.n % m := by
  have a := Int.emod_nonneg o.n (b := m) (by omega)
  have b := Int.emod_lt_of_pos o.n h0
  rw [toI_u h, tmod_pos h.n0]
  exact ⟨wrap_i64 (by omega) (by omega), wrap_i64 (by omega) (by omega)⟩
theorem even_iff (n : Int) : decide (n.tmod 2 = 0) = decide (n % 2 = 0) := by
  apply decide_eq_decide.2
  rw [← Int.dvd_iff_tmod_eq_zero, Int.dvd_iff_emod_eq_zero]
def opV (o : OpS) : V := .agg (opC o)
set_option maxHeartbeats 4000000 in
set_option maxRecDepth 4000 in
theorem Prog_spec (c : Cat) (h1 : c.es.length ≤ 1000000) (h2 : c.gs.length ≤ 1000000) : Spec Tryz.prog 8 [catV c] (catV c) := by
  refine spec_of tt_ok Tryz.func8 rfl (by decide) Tryz.ntmps8 (congrArg Array.toList Tryz.results8) (by simp) (by decide) rfl rfl (fun F hF => ?_)
  refine vwp_seq_k fun N hN => vreg tt_ok hF rfl ?_; simp only [go_sem, Int.reduceEq, Int.reduceNe, Int.reduceLT, Int.reduceLE, Nat.reduceEqDiff, Nat.reduceAdd, Nat.reduceMul, Nat.reduceLT, Nat.reduceLeDiff, Nat.reduceSub, reduceCtorEq, reduceIte, Int.reduceToNat, opV, opC]
  refine hN _ (VWp.keepR [1,2] [1,2] tt_ok hF rfl fun N hN => ?_); simp only [go_sem, Int.reduceEq, Int.reduceNe, Int.reduceLT, Int.reduceLE, Nat.reduceEqDiff, Nat.reduceAdd, Nat.reduceMul, Nat.reduceLT, Nat.reduceLeDiff, Nat.reduceSub, reduceCtorEq, reduceIte, Int.reduceToNat, opV, opC]
  refine ⟨by omega, ?_⟩
  refine hN _ (VWp.keep [1,2,3] [1,2,3,5] ?_); simp only [go_sem, Int.reduceEq, Int.reduceNe, Int.reduceLT, Int.reduceLE, Nat.reduceEqDiff, Nat.reduceAdd, Nat.reduceMul, Nat.reduceLT, Nat.reduceLeDiff, Nat.reduceSub, reduceCtorEq, reduceIte, Int.reduceToNat, opV, opC]
  refine vwp_seq_k fun N hN => ?_
  refine vwp_seq_k fun Na hNa => vreg tt_ok hF rfl ?_; simp only [go_sem, Int.reduceEq, Int.reduceNe, Int.reduceLT, Int.reduceLE, Nat.reduceEqDiff, Nat.reduceAdd, Nat.reduceMul, Nat.reduceLT, Nat.reduceLeDiff, Nat.reduceSub, reduceCtorEq, reduceIte, Int.reduceToNat, opV, opC]
  refine hNa _ (VWp.keep [1,2,3,4] [1,2,3,5] ?_); simp only [go_sem, Int.reduceEq, Int.reduceNe, Int.reduceLT, Int.reduceLE, Nat.reduceEqDiff, Nat.reduceAdd, Nat.reduceMul, Nat.reduceLT, Nat.reduceLeDiff, Nat.reduceSub, reduceCtorEq, reduceIte, Int.reduceToNat, opV, opC]
  refine VWp.adoptB 30 2 54 (o := 3) (i := 1) rfl rfl rfl (by decide) ?_
  refine VWp.keep [1,2,3,4] [1,2,3,5,30] ?_; simp only [go_sem, Int.reduceEq, Int.reduceNe, Int.reduceLT, Int.reduceLE, Nat.reduceEqDiff, Nat.reduceAdd, Nat.reduceMul, Nat.reduceLT, Nat.reduceLeDiff, Nat.reduceSub, reduceCtorEq, reduceIte, Int.reduceToNat, opV, opC]
  refine vwp_block (vloop (fun k : Nat => [(1, .ptr 1 0), (2, .ptr 2 0), (3, .ptr 3 0), (4, .int .i64 (k : Int))])
    (fun k => [(1, .box 31 [.sl 4 (c.es.map entC), .sl 2 (c.gs.map grpC)]), (2, .box 25 [.nil, .nil]), (3, .box 25 [.own 5 c.es.length, .own 30 (c.gs.take k).length]), (5, .arr 4 45 (c.es.map entC)), (30, .arr 2 54 ((c.gs.take k).map grpC))])
    (fun k => k ≤ c.gs.length) (fun k => c.gs.length - k) 0 (by omega) (by simp only [go_sem, Int.reduceEq, Int.reduceNe, Int.reduceLT, Int.reduceLE, Nat.reduceEqDiff, Nat.reduceAdd, Nat.reduceMul, Nat.reduceLT, Nat.reduceLeDiff, Nat.reduceSub, reduceCtorEq, reduceIte, Int.reduceToNat, opV, opC]) ?_)
  intro k hk
  refine vwp_seq_k fun Nb hNb => ?_
  refine vwp_seq_k fun Nc hNc => vreg tt_ok hF rfl ?_; simp only [go_sem, Int.reduceEq, Int.reduceNe, Int.reduceLT, Int.reduceLE, Nat.reduceEqDiff, Nat.reduceAdd, Nat.reduceMul, Nat.reduceLT, Nat.reduceLeDiff, Nat.reduceSub, reduceCtorEq, reduceIte, Int.reduceToNat, opV, opC]
  refine hNc _ (VWp.keep [1,2,3,4,14] [1,2,3,5,30] ?_); simp only [go_sem, Int.reduceEq, Int.reduceNe, Int.reduceLT, Int.reduceLE, Nat.reduceEqDiff, Nat.reduceAdd, Nat.reduceMul, Nat.reduceLT, Nat.reduceLeDiff, Nat.reduceSub, reduceCtorEq, reduceIte, Int.reduceToNat, opV, opC]
  refine vif rfl ⟨fun ht => ?_, fun hf => ?_⟩
  · have hlt : k < c.gs.length := by simpa using ht
    obtain ⟨x, hx⟩ : ∃ x, c.gs[k]? = some x := ⟨_, List.getElem?_eq_getElem hlt⟩
    have hrow : (c.gs.map grpC).getD k [] = [.str x.base, .int .i64 x.limit] := getD_map c.gs grpC k x [] hx
    have htk : c.gs.take (k + 1) = c.gs.take k ++ [x] := by rw [List.take_succ_eq_append_getElem hlt, (List.getElem?_eq_some_iff.1 hx).2]
    have hlen : (c.gs.take k).length ≤ 1000000 := by simp; omega
    refine vwp_skip (hNb _ ?_)
    refine vwp_seq_k fun Nd hNd => ?_
    refine vwp_block ?_
    refine vregd tt_ok mixed hF rfl (by kernel_rfl) (by kernel_rfl) ?_; simp only [go_sem, Int.reduceEq, Int.reduceNe, Int.reduceLT, Int.reduceLE, Nat.reduceEqDiff, Nat.reduceAdd, Nat.reduceMul, Nat.reduceLT, Nat.reduceLeDiff, Nat.reduceSub, reduceCtorEq, reduceIte, Int.reduceToNat, opV, opC]
    simp only [hrow, go_sem, Int.reduceEq, Int.reduceNe, Int.reduceLT, Int.reduceLE, Nat.reduceEqDiff, Nat.reduceAdd, Nat.reduceMul, Nat.reduceLT, Nat.reduceLeDiff, Nat.reduceSub, reduceCtorEq, reduceIte, Int.reduceToNat, opV, opC]
    refine ⟨⟨by omega, by omega⟩, by omega, by omega, ?_⟩
    simp only [grp_snoc, ← htk, go_sem, Int.reduceEq, Int.reduceNe, Int.reduceLT, Int.reduceLE, Nat.reduceEqDiff, Nat.reduceAdd, Nat.reduceMul, Nat.reduceLT, Nat.reduceLeDiff, Nat.reduceSub, reduceCtorEq, reduceIte, Int.reduceToNat, opV, opC]
    refine hNd _ (VWp.keep [1,2,3,4] [1,2,3,5,30] ?_); simp only [go_sem, Int.reduceEq, Int.reduceNe, Int.reduceLT, Int.reduceLE, Nat.reduceEqDiff, Nat.reduceAdd, Nat.reduceMul, Nat.reduceLT, Nat.reduceLeDiff, Nat.reduceSub, reduceCtorEq, reduceIte, Int.reduceToNat, opV, opC]
    refine vreg tt_ok hF rfl ?_; simp only [go_sem, Int.reduceEq, Int.reduceNe, Int.reduceLT, Int.reduceLE, Nat.reduceEqDiff, Nat.reduceAdd, Nat.reduceMul, Nat.reduceLT, Nat.reduceLeDiff, Nat.reduceSub, reduceCtorEq, reduceIte, Int.reduceToNat, opV, opC]
    rw [wrap_i64 (by omega) (by omega)]
    exact ⟨k + 1, by omega, by omega, by simp⟩
  · have hle : k = c.gs.length := by have : c.gs.length ≤ k := by simpa using hf
                                     omega
    subst hle
    refine vwp_exit ?_
    simp only [go_sem, Int.reduceEq, Int.reduceNe, Int.reduceLT, Int.reduceLE, Nat.reduceEqDiff, Nat.reduceAdd, Nat.reduceMul, Nat.reduceLT, Nat.reduceLeDiff, Nat.reduceSub, reduceCtorEq, reduceIte, Int.reduceToNat, opV, opC]
    rw [List.take_length]
    refine hN _ (VWp.keepR [2,3] [2,3,5,30] tt_ok hF rfl fun N hN => ?_); simp only [go_sem, Int.reduceEq, Int.reduceNe, Int.reduceLT, Int.reduceLE, Nat.reduceEqDiff, Nat.reduceAdd, Nat.reduceMul, Nat.reduceLT, Nat.reduceLeDiff, Nat.reduceSub, reduceCtorEq, reduceIte, Int.reduceToNat, opV, opC]
    refine hN _ (vwp_ret ?_)
    simp only [go_sem, Int.reduceEq, Int.reduceNe, Int.reduceLT, Int.reduceLE, Nat.reduceEqDiff, Nat.reduceAdd, Nat.reduceMul, Nat.reduceLT, Nat.reduceLeDiff, Nat.reduceSub, reduceCtorEq, reduceIte, Int.reduceToNat, opV, opC]
    exact LeV.refl _
set_option maxHeartbeats 4000000 in
set_option maxRecDepth 4000 in
theorem Ref_spec (c : Cat) (h1 : c.es.length ≤ 1000000) (h2 : c.gs.length ≤ 1000000) : Spec Tryz.prog 15 [catV c] (catV c) := by
  refine spec_of tt_ok Tryz.func15 rfl (by decide) Tryz.ntmps15 (congrArg Array.toList Tryz.results15) (by simp) (by decide) rfl rfl (fun F hF => ?_)
  refine vwp_seq_k fun N hN => vreg tt_ok hF rfl ?_; simp only [go_sem, Int.reduceEq, Int.reduceNe, Int.reduceLT, Int.reduceLE, Nat.reduceEqDiff, Nat.reduceAdd, Nat.reduceMul, Nat.reduceLT, Nat.reduceLeDiff, Nat.reduceSub, reduceCtorEq, reduceIte, Int.reduceToNat, opV, opC]
  refine hN _ (VWp.keepR [1,2] [1,2] tt_ok hF rfl fun N hN => ?_); simp only [go_sem, Int.reduceEq, Int.reduceNe, Int.reduceLT, Int.reduceLE, Nat.reduceEqDiff, Nat.reduceAdd, Nat.reduceMul, Nat.reduceLT, Nat.reduceLeDiff, Nat.reduceSub, reduceCtorEq, reduceIte, Int.reduceToNat, opV, opC]
  refine ⟨by omega, ?_⟩
  refine hN _ (VWp.keep [1,2,3] [1,2,3,5] ?_); simp only [go_sem, Int.reduceEq, Int.reduceNe, Int.reduceLT, Int.reduceLE, Nat.reduceEqDiff, Nat.reduceAdd, Nat.reduceMul, Nat.reduceLT, Nat.reduceLeDiff, Nat.reduceSub, reduceCtorEq, reduceIte, Int.reduceToNat, opV, opC]
  refine vwp_seq_k fun N hN => ?_
  refine vwp_seq_k fun Na hNa => vreg tt_ok hF rfl ?_; simp only [go_sem, Int.reduceEq, Int.reduceNe, Int.reduceLT, Int.reduceLE, Nat.reduceEqDiff, Nat.reduceAdd, Nat.reduceMul, Nat.reduceLT, Nat.reduceLeDiff, Nat.reduceSub, reduceCtorEq, reduceIte, Int.reduceToNat, opV, opC]
  refine hNa _ (VWp.keep [1,2,3,4] [1,2,3,5] ?_); simp only [go_sem, Int.reduceEq, Int.reduceNe, Int.reduceLT, Int.reduceLE, Nat.reduceEqDiff, Nat.reduceAdd, Nat.reduceMul, Nat.reduceLT, Nat.reduceLeDiff, Nat.reduceSub, reduceCtorEq, reduceIte, Int.reduceToNat, opV, opC]
  refine VWp.adoptB 30 2 47 (o := 3) (i := 1) rfl rfl rfl (by decide) ?_
  refine VWp.keep [1,2,3,4] [1,2,3,5,30] ?_; simp only [go_sem, Int.reduceEq, Int.reduceNe, Int.reduceLT, Int.reduceLE, Nat.reduceEqDiff, Nat.reduceAdd, Nat.reduceMul, Nat.reduceLT, Nat.reduceLeDiff, Nat.reduceSub, reduceCtorEq, reduceIte, Int.reduceToNat, opV, opC]
  refine vwp_block (vloop (fun k : Nat => [(1, .ptr 1 0), (2, .ptr 2 0), (3, .ptr 3 0), (4, .int .i64 (k : Int))])
    (fun k => [(1, .box 25 [.sl 4 (c.es.map entC), .sl 2 (c.gs.map grpC)]), (2, .box 31 [.nil, .nil]), (3, .box 31 [.own 5 c.es.length, .own 30 (c.gs.take k).length]), (5, .arr 4 45 (c.es.map entC)), (30, .arr 2 47 ((c.gs.take k).map grpC))])
    (fun k => k ≤ c.gs.length) (fun k => c.gs.length - k) 0 (by omega) (by simp only [go_sem, Int.reduceEq, Int.reduceNe, Int.reduceLT, Int.reduceLE, Nat.reduceEqDiff, Nat.reduceAdd, Nat.reduceMul, Nat.reduceLT, Nat.reduceLeDiff, Nat.reduceSub, reduceCtorEq, reduceIte, Int.reduceToNat, opV, opC]) ?_)
  intro k hk
  refine vwp_seq_k fun Nb hNb => ?_
  refine vwp_seq_k fun Nc hNc => vreg tt_ok hF rfl ?_; simp only [go_sem, Int.reduceEq, Int.reduceNe, Int.reduceLT, Int.reduceLE, Nat.reduceEqDiff, Nat.reduceAdd, Nat.reduceMul, Nat.reduceLT, Nat.reduceLeDiff, Nat.reduceSub, reduceCtorEq, reduceIte, Int.reduceToNat, opV, opC]
  refine hNc _ (VWp.keep [1,2,3,4,14] [1,2,3,5,30] ?_); simp only [go_sem, Int.reduceEq, Int.reduceNe, Int.reduceLT, Int.reduceLE, Nat.reduceEqDiff, Nat.reduceAdd, Nat.reduceMul, Nat.reduceLT, Nat.reduceLeDiff, Nat.reduceSub, reduceCtorEq, reduceIte, Int.reduceToNat, opV, opC]
  refine vif rfl ⟨fun ht => ?_, fun hf => ?_⟩
  · have hlt : k < c.gs.length := by simpa using ht
    obtain ⟨x, hx⟩ : ∃ x, c.gs[k]? = some x := ⟨_, List.getElem?_eq_getElem hlt⟩
    have hrow : (c.gs.map grpC).getD k [] = [.str x.base, .int .i64 x.limit] := getD_map c.gs grpC k x [] hx
    have htk : c.gs.take (k + 1) = c.gs.take k ++ [x] := by rw [List.take_succ_eq_append_getElem hlt, (List.getElem?_eq_some_iff.1 hx).2]
    have hlen : (c.gs.take k).length ≤ 1000000 := by simp; omega
    refine vwp_skip (hNb _ ?_)
    refine vwp_seq_k fun Nd hNd => ?_
    refine vwp_block ?_
    refine vregd tt_ok mixed hF rfl (by kernel_rfl) (by kernel_rfl) ?_; simp only [go_sem, Int.reduceEq, Int.reduceNe, Int.reduceLT, Int.reduceLE, Nat.reduceEqDiff, Nat.reduceAdd, Nat.reduceMul, Nat.reduceLT, Nat.reduceLeDiff, Nat.reduceSub, reduceCtorEq, reduceIte, Int.reduceToNat, opV, opC]
    simp only [hrow, go_sem, Int.reduceEq, Int.reduceNe, Int.reduceLT, Int.reduceLE, Nat.reduceEqDiff, Nat.reduceAdd, Nat.reduceMul, Nat.reduceLT, Nat.reduceLeDiff, Nat.reduceSub, reduceCtorEq, reduceIte, Int.reduceToNat, opV, opC]
    refine ⟨⟨by omega, by omega⟩, by omega, by omega, ?_⟩
    simp only [grp_snoc, ← htk, go_sem, Int.reduceEq, Int.reduceNe, Int.reduceLT, Int.reduceLE, Nat.reduceEqDiff, Nat.reduceAdd, Nat.reduceMul, Nat.reduceLT, Nat.reduceLeDiff, Nat.reduceSub, reduceCtorEq, reduceIte, Int.reduceToNat, opV, opC]
    refine hNd _ (VWp.keep [1,2,3,4] [1,2,3,5,30] ?_); simp only [go_sem, Int.reduceEq, Int.reduceNe, Int.reduceLT, Int.reduceLE, Nat.reduceEqDiff, Nat.reduceAdd, Nat.reduceMul, Nat.reduceLT, Nat.reduceLeDiff, Nat.reduceSub, reduceCtorEq, reduceIte, Int.reduceToNat, opV, opC]
    refine vreg tt_ok hF rfl ?_; simp only [go_sem, Int.reduceEq, Int.reduceNe, Int.reduceLT, Int.reduceLE, Nat.reduceEqDiff, Nat.reduceAdd, Nat.reduceMul, Nat.reduceLT, Nat.reduceLeDiff, Nat.reduceSub, reduceCtorEq, reduceIte, Int.reduceToNat, opV, opC]
    rw [wrap_i64 (by omega) (by omega)]
    exact ⟨k + 1, by omega, by omega, by simp⟩
  · have hle : k = c.gs.length := by have : c.gs.length ≤ k := by simpa using hf
                                     omega
    subst hle
    refine vwp_exit ?_
    simp only [go_sem, Int.reduceEq, Int.reduceNe, Int.reduceLT, Int.reduceLE, Nat.reduceEqDiff, Nat.reduceAdd, Nat.reduceMul, Nat.reduceLT, Nat.reduceLeDiff, Nat.reduceSub, reduceCtorEq, reduceIte, Int.reduceToNat, opV, opC]
    rw [List.take_length]
    refine hN _ (VWp.keepR [2,3] [2,3,5,30] tt_ok hF rfl fun N hN => ?_); simp only [go_sem, Int.reduceEq, Int.reduceNe, Int.reduceLT, Int.reduceLE, Nat.reduceEqDiff, Nat.reduceAdd, Nat.reduceMul, Nat.reduceLT, Nat.reduceLeDiff, Nat.reduceSub, reduceCtorEq, reduceIte, Int.reduceToNat, opV, opC]
    refine hN _ (vwp_ret ?_)
    simp only [go_sem, Int.reduceEq, Int.reduceNe, Int.reduceLT, Int.reduceLE, Nat.reduceEqDiff, Nat.reduceAdd, Nat.reduceMul, Nat.reduceLT, Nat.reduceLeDiff, Nat.reduceSub, reduceCtorEq, reduceIte, Int.reduceToNat, opV, opC]
    exact LeV.refl _

def serK (s : Bs) (k : Nat) : Bs := 86 :: (s.take k).map fun x => UInt8.ofNat (65 + x.toNat % 26)
set_option maxHeartbeats 4000000 in
set_option maxRecDepth 4000 in
theorem lentry_spec (s : Bs) (o : OpS) (ho : OpOk o) : Spec Tryz.prog 28 [.str s, opV o] (entV (entS s o)) := by
  refine spec_of tt_ok Tryz.func28 rfl (by decide) Tryz.ntmps28 (congrArg Array.toList Tryz.results28) (by simp) (by decide) rfl rfl (fun F hF => ?_)
  refine vwp_seq_k fun N hN => vreg tt_ok hF rfl ?_; simp only [go_sem, Int.reduceEq, Int.reduceNe, Int.reduceLT, Int.reduceLE, Nat.reduceEqDiff, Nat.reduceAdd, Nat.reduceMul, Nat.reduceLT, Nat.reduceLeDiff, Nat.reduceSub, reduceCtorEq, reduceIte, Int.reduceToNat, opV, opC]
  refine hN _ (VWp.keepR [0,3,4] [3,4] tt_ok hF rfl fun N hN => ?_); simp only [go_sem, Int.reduceEq, Int.reduceNe, Int.reduceLT, Int.reduceLE, Nat.reduceEqDiff, Nat.reduceAdd, Nat.reduceMul, Nat.reduceLT, Nat.reduceLeDiff, Nat.reduceSub, reduceCtorEq, reduceIte, Int.reduceToNat, opV, opC]
  refine hN _ (VWp.keep [3,4,5] [3,4,5] ?_); simp only [go_sem, Int.reduceEq, Int.reduceNe, Int.reduceLT, Int.reduceLE, Nat.reduceEqDiff, Nat.reduceAdd, Nat.reduceMul, Nat.reduceLT, Nat.reduceLeDiff, Nat.reduceSub, reduceCtorEq, reduceIte, Int.reduceToNat, opV, opC]
  refine vwp_seq_k fun N hN => ?_
  refine vwp_seq_k fun Na hNa => vreg tt_ok hF rfl ?_; simp only [go_sem, Int.reduceEq, Int.reduceNe, Int.reduceLT, Int.reduceLE, Nat.reduceEqDiff, Nat.reduceAdd, Nat.reduceMul, Nat.reduceLT, Nat.reduceLeDiff, Nat.reduceSub, reduceCtorEq, reduceIte, Int.reduceToNat, opV, opC]
  refine hNa _ (VWp.keep [3,4,5,6] [3,4,5] ?_); simp only [go_sem, Int.reduceEq, Int.reduceNe, Int.reduceLT, Int.reduceLE, Nat.reduceEqDiff, Nat.reduceAdd, Nat.reduceMul, Nat.reduceLT, Nat.reduceLeDiff, Nat.reduceSub, reduceCtorEq, reduceIte, Int.reduceToNat, opV, opC]
  refine vwp_block (vloop (fun k : Nat => [(3, .ptr 3 0), (4, .ptr 4 0), (5, .ptr 5 0), (6, .int .i64 (k : Int))])
    (fun k => [(3, .box 42 (opC o)), (4, .box 45 [.str [], .int .i64 0, .str [], .int .i64 0]), (5, .box 45 [.str s, .int .i64 5, .str (serK o.serial k), .int .i64 0])])
    (fun k => k ≤ 5 ∧ k ≤ o.serial.length) (fun k => 5 - k) 0 (by omega) (by simp only [go_sem, Int.reduceEq, Int.reduceNe, Int.reduceLT, Int.reduceLE, Nat.reduceEqDiff, Nat.reduceAdd, Nat.reduceMul, Nat.reduceLT, Nat.reduceLeDiff, Nat.reduceSub, reduceCtorEq, reduceIte, Int.reduceToNat, opV, opC]; simp [serK]) ?_)
  rintro k ⟨hk, hk2⟩
  refine vwp_seq_k fun Nb hNb => ?_
  refine vmeet (fun b : Bool => [(3, .ptr 3 0), (4, .ptr 4 0), (5, .ptr 5 0), (6, .int .i64 (k : Int)), (17, .bool b)])
    (fun _ => [(3, .box 42 (opC o)), (4, .box 45 [.str [], .int .i64 0, .str [], .int .i64 0]), (5, .box 45 [.str s, .int .i64 5, .str (serK o.serial k), .int .i64 0])])
    (fun b => b = (decide (k < o.serial.length) && decide (k < 5))) ?_ ?_
  · by_cases hl : k < o.serial.length
    · have f1 : decide ((k : Int) < (o.serial.length : Int)) = true := decide_eq_true (by omega)
      have f2 : decide ((k : Int) < 5) = decide (k < 5) := by apply decide_eq_decide.2; omega
      refine vreg tt_ok hF rfl ?_; simp only [go_sem, Int.reduceEq, Int.reduceNe, Int.reduceLT, Int.reduceLE, Nat.reduceEqDiff, Nat.reduceAdd, Nat.reduceMul, Nat.reduceLT, Nat.reduceLeDiff, Nat.reduceSub, reduceCtorEq, reduceIte, Int.reduceToNat, opV, opC, f1, f2]
      exact ⟨_, rfl, by simp [hl]⟩
    · have f1 : decide ((k : Int) < (o.serial.length : Int)) = false := decide_eq_false (by omega)
      refine vreg tt_ok hF rfl ?_; simp only [go_sem, Int.reduceEq, Int.reduceNe, Int.reduceLT, Int.reduceLE, Nat.reduceEqDiff, Nat.reduceAdd, Nat.reduceMul, Nat.reduceLT, Nat.reduceLeDiff, Nat.reduceSub, reduceCtorEq, reduceIte, Int.reduceToNat, opV, opC, f1]
      exact ⟨_, rfl, by simp [hl]⟩
  intro b hb
  refine vif rfl ⟨fun ht => ?_, fun hf => ?_⟩
  · rw [ht] at hb
    have hb := Bool.and_eq_true_iff.1 hb.symm
    have hl : k < o.serial.length := of_decide_eq_true hb.1
    have hl5 : k < 5 := of_decide_eq_true hb.2
    refine vwp_skip (hNb _ ?_)
    refine vwp_seq_k fun Nd hNd => ?_
    refine vwp_block ?_
    refine vregd tt_ok mixed hF rfl (by kernel_rfl) (by kernel_rfl) ?_; simp only [go_sem, Int.reduceEq, Int.reduceNe, Int.reduceLT, Int.reduceLE, Nat.reduceEqDiff, Nat.reduceAdd, Nat.reduceMul, Nat.reduceLT, Nat.reduceLeDiff, Nat.reduceSub, reduceCtorEq, reduceIte, Int.reduceToNat, opV, opC]
    obtain ⟨x, hx⟩ : ∃ x, o.serial.getD k 0 = x := ⟨_, rfl⟩
    have hxl : x.toNat < 256 := x.toNat_lt
    have hb8 : UInt8.ofNat (IntKind.u8.wrap (65 + ((x.toNat : Int)).tmod 26)).toNat = UInt8.ofNat (65 + x.toNat % 26) := by
      rw [tmod_pos (by omega), wrap_u8]; congr 1; omega
    have hsk : serK o.serial k ++ [UInt8.ofNat (65 + x.toNat % 26)] = serK o.serial (k + 1) := by
      unfold serK
      rw [List.take_succ_eq_append_getElem hl, List.map_append, ← hx]
      simp [hl]
    have hsl : (serK o.serial k).length ≤ 6 := by unfold serK; simp; omega
    rw [hx, hb8, hsk]
    refine ⟨⟨by omega, by omega⟩, by omega, ?_⟩
    refine hNd _ (VWp.keep [3,4,5,6] [3,4,5] ?_); simp only [go_sem, Int.reduceEq, Int.reduceNe, Int.reduceLT, Int.reduceLE, Nat.reduceEqDiff, Nat.reduceAdd, Nat.reduceMul, Nat.reduceLT, Nat.reduceLeDiff, Nat.reduceSub, reduceCtorEq, reduceIte, Int.reduceToNat, opV, opC]
    refine vreg tt_ok hF rfl ?_; simp only [go_sem, Int.reduceEq, Int.reduceNe, Int.reduceLT, Int.reduceLE, Nat.reduceEqDiff, Nat.reduceAdd, Nat.reduceMul, Nat.reduceLT, Nat.reduceLeDiff, Nat.reduceSub, reduceCtorEq, reduceIte, Int.reduceToNat, opV, opC]
    rw [wrap_i64 (by omega) (by omega)]
    exact ⟨k + 1, ⟨by omega, by omega⟩, by omega, by simp⟩
  · rw [hf] at hb
    have hser : serK o.serial k = serS o.serial := by
      unfold serK serS
      by_cases hl : k < o.serial.length
      · have : ¬ k < 5 := by intro h; simp [hl, h] at hb
        rw [show k = 5 by omega]
      · rw [show o.serial.take k = o.serial by rw [List.take_of_length_le (by omega)], show o.serial.take 5 = o.serial by rw [List.take_of_length_le (by omega)]]
    refine vwp_exit ?_
    simp only [go_sem, Int.reduceEq, Int.reduceNe, Int.reduceLT, Int.reduceLE, Nat.reduceEqDiff, Nat.reduceAdd, Nat.reduceMul, Nat.reduceLT, Nat.reduceLeDiff, Nat.reduceSub, reduceCtorEq, reduceIte, Int.reduceToNat, opV, opC]
    rw [hser]
    refine hN _ (VWp.keep [3,4,5] [3,4,5] ?_); simp only [go_sem, Int.reduceEq, Int.reduceNe, Int.reduceLT, Int.reduceLE, Nat.reduceEqDiff, Nat.reduceAdd, Nat.reduceMul, Nat.reduceLT, Nat.reduceLeDiff, Nat.reduceSub, reduceCtorEq, reduceIte, Int.reduceToNat, opV, opC]
    refine vmeet (fun _ : Unit => [(4, .ptr 4 0), (5, .ptr 5 0)]) (fun _ => [(4, .box 45 [.str [], .int .i64 0, .str [], .int .i64 0]), (5, .box 45 (entC (entS s o)))]) (fun _ => True) ?_ ?_
    · refine vwp_seq_k fun Na hNa => vreg tt_ok hF rfl ?_; simp only [go_sem, Int.reduceEq, Int.reduceNe, Int.reduceLT, Int.reduceLE, Nat.reduceEqDiff, Nat.reduceAdd, Nat.reduceMul, Nat.reduceLT, Nat.reduceLeDiff, Nat.reduceSub, reduceCtorEq, reduceIte, Int.reduceToNat, opV, opC]
      rw [even_iff]
      refine hNa _ (VWp.keep [3,4,5,35] [3,4,5] ?_); simp only [go_sem, Int.reduceEq, Int.reduceNe, Int.reduceLT, Int.reduceLE, Nat.reduceEqDiff, Nat.reduceAdd, Nat.reduceMul, Nat.reduceLT, Nat.reduceLeDiff, Nat.reduceSub, reduceCtorEq, reduceIte, Int.reduceToNat, opV, opC]
      obtain ⟨m1, m2⟩ := toI_mod ho 4096 (by omega) (by omega)
      refine vif rfl ⟨fun ht => ?_, fun hf => ?_⟩
      · have he := of_decide_eq_true ht
        have hE : entC (entS s o) = [.str s, .int .i64 4, .str (serS o.serial), .int .i64 (1 + o.n % 4096)] := by unfold entS; rw [if_pos he]; rfl
        simp only [entC] at hE
        rw [hE]
        refine vregord tt_ok mixed hF rfl .all [[0, 1, 2, 3, 4, 5, 6, 7, 8, 9], [6, 7, 0, 1, 2, 3, 4, 5, 8, 9], [0, 1, 6, 7, 2, 3, 4, 5, 8, 9], [0, 1, 2, 6, 7, 3, 4, 5, 8, 9]] [] (by kernel_rfl) ⟨?_, ?_, ?_, ?_, trivial⟩ <;> simp only [pickL, go_sem, Int.reduceEq, Int.reduceNe, Int.reduceLT, Int.reduceLE, Nat.reduceEqDiff, Nat.reduceAdd, Nat.reduceMul, Nat.reduceLT, Nat.reduceLeDiff, Nat.reduceSub, reduceCtorEq, reduceIte, Int.reduceToNat, opV, opC, m1, m2]
        all_goals exact ⟨(), by simp⟩
      · have he := of_decide_eq_false hf
        refine vwp_skip ⟨(), ?_⟩
        unfold entS; rw [if_neg he]
        simp only [go_sem, Int.reduceEq, Int.reduceNe, Int.reduceLT, Int.reduceLE, Nat.reduceEqDiff, Nat.reduceAdd, Nat.reduceMul, Nat.reduceLT, Nat.reduceLeDiff, Nat.reduceSub, reduceCtorEq, reduceIte, Int.reduceToNat, opV, opC]
    · intro _ _
      refine vwp_seq_k fun N hN => vreg tt_ok hF rfl ?_; simp only [go_sem, Int.reduceEq, Int.reduceNe, Int.reduceLT, Int.reduceLE, Nat.reduceEqDiff, Nat.reduceAdd, Nat.reduceMul, Nat.reduceLT, Nat.reduceLeDiff, Nat.reduceSub, reduceCtorEq, reduceIte, Int.reduceToNat, opV, opC]
      refine hN _ (vwp_ret ?_)
      simp only [go_sem, Int.reduceEq, Int.reduceNe, Int.reduceLT, Int.reduceLE, Nat.reduceEqDiff, Nat.reduceAdd, Nat.reduceMul, Nat.reduceLT, Nat.reduceLeDiff, Nat.reduceSub, reduceCtorEq, reduceIte, Int.reduceToNat, opV, opC]
      exact LeV.refl _
end Go.Proofs.YtldkmclfhjcicaaGreatDoor

import Derived.Outline
import Derived.Test.YtedbbinlcdgkoaaGreatDoorQT
import Derived.Test.YtedbbinlcdgkoaaGreatDoorYC

/- Layer 19: Find, Volume; the law's fails and works. -/
-- SIMP: beq_self_eq_true, Bool.and_self, ofVal_nilFn
namespace Go.Proofs.YtedbbinlcdgkoaaGreatDoor
open Go.RowKit Go.Lib
set_option linter.unusedVariables false
set_option linter.unusedSimpArgs false
def volT (s : Bs) (x : UniT) : Bool := decide (x.ser = s) && (decide (x.kind = 4) || decide (x.kind = 5))
set_option maxHeartbeats 4000000 in
set_option maxRecDepth 4000 in
theorem Volume1_spec (x : UniT) (s : Bs) : Spec Tryz.prog 49 [.agg (uniC x), .rp [.str s] 0] (.bool (volT s x)) := by
  unfold uniC volT
  obtain ⟨b1, e1⟩ : ∃ b, decide (x.ser = s) = b := ⟨_, rfl⟩
  obtain ⟨b2, e2⟩ : ∃ b, decide (x.kind = 4) = b := ⟨_, rfl⟩
  obtain ⟨b3, e3⟩ : ∃ b, decide (x.kind = 5) = b := ⟨_, rfl⟩
  rw [e1, e2, e3]
  cases b1 <;> cases b2
  all_goals
    refine spec_of tt_ok Tryz.func49 rfl (by decide) Tryz.ntmps49 (congrArg Array.toList Tryz.results49) (by simp) (by decide) rfl rfl (fun F hF => ?_)
    refine vwp_seq_k fun Na hNa => vreg tt_ok hF rfl ?_; simp only [go_sem, Int.reduceEq, Int.reduceNe, Int.reduceLT, Int.reduceLE, Nat.reduceEqDiff, Nat.reduceAdd, Nat.reduceMul, Nat.reduceLT, Nat.reduceLeDiff, Nat.reduceSub, reduceCtorEq, reduceIte, Int.reduceToNat, beq_self_eq_true, Bool.and_self, ofVal_nilFn]
    refine hNa _ (VWp.keepR [1,2] [2] tt_ok hF rfl fun Nb hNb => ?_); simp only [go_sem, Int.reduceEq, Int.reduceNe, Int.reduceLT, Int.reduceLE, Nat.reduceEqDiff, Nat.reduceAdd, Nat.reduceMul, Nat.reduceLT, Nat.reduceLeDiff, Nat.reduceSub, reduceCtorEq, reduceIte, Int.reduceToNat, beq_self_eq_true, Bool.and_self, ofVal_nilFn]
    try simp only [e1, e2, e3, go_sem, Int.reduceEq, Int.reduceNe, Int.reduceLT, Int.reduceLE, Nat.reduceEqDiff, Nat.reduceAdd, Nat.reduceMul, Nat.reduceLT, Nat.reduceLeDiff, Nat.reduceSub, reduceCtorEq, reduceIte, Int.reduceToNat, beq_self_eq_true, Bool.and_self, ofVal_nilFn]
    refine hNb _ (VWp.keep [3] [] ?_); simp only [go_sem, Int.reduceEq, Int.reduceNe, Int.reduceLT, Int.reduceLE, Nat.reduceEqDiff, Nat.reduceAdd, Nat.reduceMul, Nat.reduceLT, Nat.reduceLeDiff, Nat.reduceSub, reduceCtorEq, reduceIte, Int.reduceToNat, beq_self_eq_true, Bool.and_self, ofVal_nilFn]
    refine vwp_ret ?_
    simp only [go_sem, Int.reduceEq, Int.reduceNe, Int.reduceLT, Int.reduceLE, Nat.reduceEqDiff, Nat.reduceAdd, Nat.reduceMul, Nat.reduceLT, Nat.reduceLeDiff, Nat.reduceSub, reduceCtorEq, reduceIte, Int.reduceToNat, beq_self_eq_true, Bool.and_self, ofVal_nilFn]
    first | exact LeV.refl _ | exact LeV.of_eq (by simp)
def zeroU : UniT := ⟨0, 0, [], 0, 0⟩
def findT (us : List UniT) (p : UniT → Bool) : UniT × Bool := match us.find? p with
  | some u => (u, true)
  | none => (zeroU, false)
theorem agg_uni (u : UniT) : V.agg (uniC u) = V.agg [.int .i64 u.addr, .int .i64 u.kind, .str u.ser, .int .i64 u.cyl, .int .i64 u.head] := rfl
def findR (r : UniT × Bool) : V := .tup [.agg (uniC r.1), .bool r.2]
theorem first_find (us : List UniT) (p : UniT → Bool) : (∃ k, ∃ h : k < us.length, firstT us p = (k : Int) ∧ findT us p = (us[k], true)) ∨ (firstT us p = -1 ∧ findT us p = (zeroU, false)) := by
  unfold firstT findT
  cases h : us.findIdx? p with
  | none =>
    right
    rw [List.findIdx?_eq_none_iff] at h
    have : us.find? p = none := List.find?_eq_none.2 fun x hx => by rw [h x hx]; decide
    rw [this]
    exact ⟨rfl, rfl⟩
  | some k =>
    left
    rw [List.findIdx?_eq_some_iff_getElem] at h
    obtain ⟨h1, h2, h3⟩ := h
    refine ⟨k, h1, rfl, ?_⟩
    have : us.find? p = some us[k] := by
      rw [List.find?_eq_some_iff_getElem]
      exact ⟨h2, k, h1, rfl, fun j hj => by have := h3 j hj; simpa using this⟩
    rw [this]
set_option maxHeartbeats 4000000 in
set_option maxRecDepth 4000 in
theorem firstVolume_B (c : CfgT) (s : Bs) (hn : c.us.length ≤ 1000000) :
    SpecB Tryz.prog 48 [.agg (cfgC c), .fn (.func 49) [.ptr 1000003 0]] [(1000003, .box 9 [.str s])] (findR (findT c.us (volT s))) [(1000003, .box 9 [.str s])] := by
  have hix := Index_spec c.us (volT s) 49 [.str s] 0 hn (fun y _ => Volume1_spec y s)
  unfold findR cfgC
  rcases first_find c.us (volT s) with ⟨k, hk, h1, h2⟩ | ⟨h1, h2⟩
  · rw [h1] at hix
    rw [h2]
    have hget := uni_row hk
    have hd : decide ((k : Int) < 0) = false := decide_eq_false (by omega)
    rw [agg_uni]
    refine specB_of tt_ok Tryz.func48 rfl (by decide) Tryz.ntmps48 (congrArg Array.toList Tryz.results48) (by simp) (by decide) rfl (by simp only [go_sem, Int.reduceEq, Int.reduceNe, Int.reduceLT, Int.reduceLE, Nat.reduceEqDiff, Nat.reduceAdd, Nat.reduceMul, Nat.reduceLT, Nat.reduceLeDiff, Nat.reduceSub, reduceCtorEq, reduceIte, Int.reduceToNat, beq_self_eq_true, Bool.and_self, ofVal_nilFn]) (fun F hF => ?_)
    refine vwp_seq_k fun Na hNa => vreg tt_ok hF rfl ?_; simp only [go_sem, Int.reduceEq, Int.reduceNe, Int.reduceLT, Int.reduceLE, Nat.reduceEqDiff, Nat.reduceAdd, Nat.reduceMul, Nat.reduceLT, Nat.reduceLeDiff, Nat.reduceSub, reduceCtorEq, reduceIte, Int.reduceToNat, beq_self_eq_true, Bool.and_self, ofVal_nilFn]
    refine hNa _ (VWp.keepR [1,2,4] [2,4,1000003] tt_ok hF rfl fun Nb hNb => ?_); simp only [go_sem, Int.reduceEq, Int.reduceNe, Int.reduceLT, Int.reduceLE, Nat.reduceEqDiff, Nat.reduceAdd, Nat.reduceMul, Nat.reduceLT, Nat.reduceLeDiff, Nat.reduceSub, reduceCtorEq, reduceIte, Int.reduceToNat, beq_self_eq_true, Bool.and_self, ofVal_nilFn]
    (first | refine .inr (bxl ?_) | refine .inr ⟨rfl, bxl ?_⟩); simp only [go_sem, Int.reduceEq, Int.reduceNe, Int.reduceLT, Int.reduceLE, Nat.reduceEqDiff, Nat.reduceAdd, Nat.reduceMul, Nat.reduceLT, Nat.reduceLeDiff, Nat.reduceSub, reduceCtorEq, reduceIte, Int.reduceToNat, beq_self_eq_true, Bool.and_self, ofVal_nilFn]; refine look (hix) rfl ?_; try simp only [go_sem, Int.reduceEq, Int.reduceNe, Int.reduceLT, Int.reduceLE, Nat.reduceEqDiff, Nat.reduceAdd, Nat.reduceMul, Nat.reduceLT, Nat.reduceLeDiff, Nat.reduceSub, reduceCtorEq, reduceIte, Int.reduceToNat, beq_self_eq_true, Bool.and_self, ofVal_nilFn]
    refine hNb _ (VWp.keep [2,4,6] [2,4,1000003] ?_); simp only [go_sem, Int.reduceEq, Int.reduceNe, Int.reduceLT, Int.reduceLE, Nat.reduceEqDiff, Nat.reduceAdd, Nat.reduceMul, Nat.reduceLT, Nat.reduceLeDiff, Nat.reduceSub, reduceCtorEq, reduceIte, Int.reduceToNat, beq_self_eq_true, Bool.and_self, ofVal_nilFn]
    refine vwp_seq_k fun Nc hNc => ?_
    refine vwp_seq_k fun Nd hNd => vreg tt_ok hF rfl ?_; simp only [go_sem, Int.reduceEq, Int.reduceNe, Int.reduceLT, Int.reduceLE, Nat.reduceEqDiff, Nat.reduceAdd, Nat.reduceMul, Nat.reduceLT, Nat.reduceLeDiff, Nat.reduceSub, reduceCtorEq, reduceIte, Int.reduceToNat, beq_self_eq_true, Bool.and_self, ofVal_nilFn]
    simp only [hd]
    refine hNd _ (VWp.keep [2,4,6,12] [2,4,1000003] ?_); simp only [go_sem, Int.reduceEq, Int.reduceNe, Int.reduceLT, Int.reduceLE, Nat.reduceEqDiff, Nat.reduceAdd, Nat.reduceMul, Nat.reduceLT, Nat.reduceLeDiff, Nat.reduceSub, reduceCtorEq, reduceIte, Int.reduceToNat, beq_self_eq_true, Bool.and_self, ofVal_nilFn]
    refine vif rfl ⟨(fun hf => by cases hf), fun ht => ?_⟩
    refine vwp_skip (hNc _ ?_)
    refine vwp_seq_k fun Nf hNf => vreg tt_ok hF rfl ?_; simp only [go_sem, Int.reduceEq, Int.reduceNe, Int.reduceLT, Int.reduceLE, Nat.reduceEqDiff, Nat.reduceAdd, Nat.reduceMul, Nat.reduceLT, Nat.reduceLeDiff, Nat.reduceSub, reduceCtorEq, reduceIte, Int.reduceToNat, beq_self_eq_true, Bool.and_self, ofVal_nilFn]
    try simp only [hget, List.length_map, Int.toNat_natCast, go_sem, Int.reduceEq, Int.reduceNe, Int.reduceLT, Int.reduceLE, Nat.reduceEqDiff, Nat.reduceAdd, Nat.reduceMul, Nat.reduceLT, Nat.reduceLeDiff, Nat.reduceSub, reduceCtorEq, reduceIte, Int.reduceToNat, beq_self_eq_true, Bool.and_self, ofVal_nilFn]
    (repeat (refine ⟨by (try simp only [List.length_append, List.length_cons, List.length_nil]); omega, ?_⟩))
    refine hNf _ (VWp.keep [4,5] [4,1000003] ?_); simp only [go_sem, Int.reduceEq, Int.reduceNe, Int.reduceLT, Int.reduceLE, Nat.reduceEqDiff, Nat.reduceAdd, Nat.reduceMul, Nat.reduceLT, Nat.reduceLeDiff, Nat.reduceSub, reduceCtorEq, reduceIte, Int.reduceToNat, beq_self_eq_true, Bool.and_self, ofVal_nilFn]
    refine vwp_ret ?_
    simp only [go_sem, Int.reduceEq, Int.reduceNe, Int.reduceLT, Int.reduceLE, Nat.reduceEqDiff, Nat.reduceAdd, Nat.reduceMul, Nat.reduceLT, Nat.reduceLeDiff, Nat.reduceSub, reduceCtorEq, reduceIte, Int.reduceToNat, beq_self_eq_true, Bool.and_self, ofVal_nilFn]
    first | done | exact LeV.refl _ | exact ⟨LeV.refl _, by first | rfl | simp⟩
  · rw [h1] at hix
    rw [h2]
    rw [agg_uni]
    unfold zeroU
    refine specB_of tt_ok Tryz.func48 rfl (by decide) Tryz.ntmps48 (congrArg Array.toList Tryz.results48) (by simp) (by decide) rfl (by simp only [go_sem, Int.reduceEq, Int.reduceNe, Int.reduceLT, Int.reduceLE, Nat.reduceEqDiff, Nat.reduceAdd, Nat.reduceMul, Nat.reduceLT, Nat.reduceLeDiff, Nat.reduceSub, reduceCtorEq, reduceIte, Int.reduceToNat, beq_self_eq_true, Bool.and_self, ofVal_nilFn]) (fun F hF => ?_)
    refine vwp_seq_k fun Na hNa => vreg tt_ok hF rfl ?_; simp only [go_sem, Int.reduceEq, Int.reduceNe, Int.reduceLT, Int.reduceLE, Nat.reduceEqDiff, Nat.reduceAdd, Nat.reduceMul, Nat.reduceLT, Nat.reduceLeDiff, Nat.reduceSub, reduceCtorEq, reduceIte, Int.reduceToNat, beq_self_eq_true, Bool.and_self, ofVal_nilFn]
    refine hNa _ (VWp.keepR [1,2,4] [2,4,1000003] tt_ok hF rfl fun Nb hNb => ?_); simp only [go_sem, Int.reduceEq, Int.reduceNe, Int.reduceLT, Int.reduceLE, Nat.reduceEqDiff, Nat.reduceAdd, Nat.reduceMul, Nat.reduceLT, Nat.reduceLeDiff, Nat.reduceSub, reduceCtorEq, reduceIte, Int.reduceToNat, beq_self_eq_true, Bool.and_self, ofVal_nilFn]
    (first | refine .inr (bxl ?_) | refine .inr ⟨rfl, bxl ?_⟩); simp only [go_sem, Int.reduceEq, Int.reduceNe, Int.reduceLT, Int.reduceLE, Nat.reduceEqDiff, Nat.reduceAdd, Nat.reduceMul, Nat.reduceLT, Nat.reduceLeDiff, Nat.reduceSub, reduceCtorEq, reduceIte, Int.reduceToNat, beq_self_eq_true, Bool.and_self, ofVal_nilFn]; refine look (hix) rfl ?_; try simp only [go_sem, Int.reduceEq, Int.reduceNe, Int.reduceLT, Int.reduceLE, Nat.reduceEqDiff, Nat.reduceAdd, Nat.reduceMul, Nat.reduceLT, Nat.reduceLeDiff, Nat.reduceSub, reduceCtorEq, reduceIte, Int.reduceToNat, beq_self_eq_true, Bool.and_self, ofVal_nilFn]
    refine hNb _ (VWp.keep [2,4,6] [2,4,1000003] ?_); simp only [go_sem, Int.reduceEq, Int.reduceNe, Int.reduceLT, Int.reduceLE, Nat.reduceEqDiff, Nat.reduceAdd, Nat.reduceMul, Nat.reduceLT, Nat.reduceLeDiff, Nat.reduceSub, reduceCtorEq, reduceIte, Int.reduceToNat, beq_self_eq_true, Bool.and_self, ofVal_nilFn]
    refine vwp_seq_k fun Nc hNc => ?_
    refine vwp_seq_k fun Nd hNd => vreg tt_ok hF rfl ?_; simp only [go_sem, Int.reduceEq, Int.reduceNe, Int.reduceLT, Int.reduceLE, Nat.reduceEqDiff, Nat.reduceAdd, Nat.reduceMul, Nat.reduceLT, Nat.reduceLeDiff, Nat.reduceSub, reduceCtorEq, reduceIte, Int.reduceToNat, beq_self_eq_true, Bool.and_self, ofVal_nilFn]
    refine hNd _ (VWp.keep [2,4,6,12] [2,4,1000003] ?_); simp only [go_sem, Int.reduceEq, Int.reduceNe, Int.reduceLT, Int.reduceLE, Nat.reduceEqDiff, Nat.reduceAdd, Nat.reduceMul, Nat.reduceLT, Nat.reduceLeDiff, Nat.reduceSub, reduceCtorEq, reduceIte, Int.reduceToNat, beq_self_eq_true, Bool.and_self, ofVal_nilFn]
    refine vif rfl ⟨fun ht => ?_, (fun hf => by cases hf)⟩
    refine vwp_seq_k fun Ne hNe => vreg tt_ok hF rfl ?_; simp only [go_sem, Int.reduceEq, Int.reduceNe, Int.reduceLT, Int.reduceLE, Nat.reduceEqDiff, Nat.reduceAdd, Nat.reduceMul, Nat.reduceLT, Nat.reduceLeDiff, Nat.reduceSub, reduceCtorEq, reduceIte, Int.reduceToNat, beq_self_eq_true, Bool.and_self, ofVal_nilFn]
    refine hNe _ (VWp.keep [4,5] [4,1000003] ?_); simp only [go_sem, Int.reduceEq, Int.reduceNe, Int.reduceLT, Int.reduceLE, Nat.reduceEqDiff, Nat.reduceAdd, Nat.reduceMul, Nat.reduceLT, Nat.reduceLeDiff, Nat.reduceSub, reduceCtorEq, reduceIte, Int.reduceToNat, beq_self_eq_true, Bool.and_self, ofVal_nilFn]
    refine vwp_ret ?_
    simp only [go_sem, Int.reduceEq, Int.reduceNe, Int.reduceLT, Int.reduceLE, Nat.reduceEqDiff, Nat.reduceAdd, Nat.reduceMul, Nat.reduceLT, Nat.reduceLeDiff, Nat.reduceSub, reduceCtorEq, reduceIte, Int.reduceToNat, beq_self_eq_true, Bool.and_self, ofVal_nilFn]
    first | done | exact LeV.refl _ | exact ⟨LeV.refl _, by first | rfl | simp⟩
set_option maxHeartbeats 4000000 in
set_option maxRecDepth 4000 in
theorem Volume_spec (c : CfgT) (s : Bs) (hn : c.us.length ≤ 1000000) : Spec Tryz.prog 26 [.agg (cfgC c), .str s] (findR (findT c.us (volT s))) := by
  have hf := firstVolume_B c s hn
  obtain ⟨⟨u, b⟩, hr⟩ : ∃ r, findT c.us (volT s) = r := ⟨_, rfl⟩
  rw [hr] at hf ⊢
  unfold findR cfgC at hf ⊢
  rw [agg_uni] at hf ⊢
  refine spec_of tt_ok Tryz.func26 rfl (by decide) Tryz.ntmps26 (congrArg Array.toList Tryz.results26) (by simp) (by decide) rfl rfl (fun F hF => ?_)
  refine vwp_seq_k fun Na hNa => vreg tt_ok hF rfl ?_; simp only [go_sem, Int.reduceEq, Int.reduceNe, Int.reduceLT, Int.reduceLE, Nat.reduceEqDiff, Nat.reduceAdd, Nat.reduceMul, Nat.reduceLT, Nat.reduceLeDiff, Nat.reduceSub, reduceCtorEq, reduceIte, Int.reduceToNat, beq_self_eq_true, Bool.and_self, ofVal_nilFn]
  refine hNa _ (VWp.keepR [2,3,4] [2,3,4] tt_ok hF rfl fun Nb hNb => ?_); simp only [go_sem, Int.reduceEq, Int.reduceNe, Int.reduceLT, Int.reduceLE, Nat.reduceEqDiff, Nat.reduceAdd, Nat.reduceMul, Nat.reduceLT, Nat.reduceLeDiff, Nat.reduceSub, reduceCtorEq, reduceIte, Int.reduceToNat, beq_self_eq_true, Bool.and_self, ofVal_nilFn]
  refine .inr (bxo [(1000003, 3)] rfl ?_); simp only [go_sem, Int.reduceEq, Int.reduceNe, Int.reduceLT, Int.reduceLE, Nat.reduceEqDiff, Nat.reduceAdd, Nat.reduceMul, Nat.reduceLT, Nat.reduceLeDiff, Nat.reduceSub, reduceCtorEq, reduceIte, Int.reduceToNat, beq_self_eq_true, Bool.and_self, ofVal_nilFn]; refine ⟨_, _, hf, ?_⟩; try simp only [go_sem, Int.reduceEq, Int.reduceNe, Int.reduceLT, Int.reduceLE, Nat.reduceEqDiff, Nat.reduceAdd, Nat.reduceMul, Nat.reduceLT, Nat.reduceLeDiff, Nat.reduceSub, reduceCtorEq, reduceIte, Int.reduceToNat, beq_self_eq_true, Bool.and_self, ofVal_nilFn]
  refine hNb _ (VWp.keep [4,5] [4] ?_); simp only [go_sem, Int.reduceEq, Int.reduceNe, Int.reduceLT, Int.reduceLE, Nat.reduceEqDiff, Nat.reduceAdd, Nat.reduceMul, Nat.reduceLT, Nat.reduceLeDiff, Nat.reduceSub, reduceCtorEq, reduceIte, Int.reduceToNat, beq_self_eq_true, Bool.and_self, ofVal_nilFn]
  refine vwp_ret ?_
  simp only [go_sem, Int.reduceEq, Int.reduceNe, Int.reduceLT, Int.reduceLE, Nat.reduceEqDiff, Nat.reduceAdd, Nat.reduceMul, Nat.reduceLT, Nat.reduceLeDiff, Nat.reduceSub, reduceCtorEq, reduceIte, Int.reduceToNat, beq_self_eq_true, Bool.and_self, ofVal_nilFn]
  exact LeV.refl _
set_option maxHeartbeats 4000000 in
set_option maxRecDepth 4000 in
theorem fails_spec (t : Bs) (line e : Int) (ht : t.length ≤ 1000000) (h : parseT t = (zeroC, line, e)) : Spec Tryz.prog 25 [.str t, .int .i64 line, .int .i64 e] (.bool true) := by
  have hp := Parse_spec t ht
  rw [h] at hp
  unfold resC cfgC zeroC at hp
  simp only [List.map_nil] at hp
  refine spec_of tt_ok Tryz.func25 rfl (by decide) Tryz.ntmps25 (congrArg Array.toList Tryz.results25) (by simp) (by decide) rfl rfl (fun F hF => ?_)
  refine vwp_seq_k fun Na hNa => vreg tt_ok hF rfl ?_; simp only [go_sem, Int.reduceEq, Int.reduceNe, Int.reduceLT, Int.reduceLE, Nat.reduceEqDiff, Nat.reduceAdd, Nat.reduceMul, Nat.reduceLT, Nat.reduceLeDiff, Nat.reduceSub, reduceCtorEq, reduceIte, Int.reduceToNat, beq_self_eq_true, Bool.and_self, ofVal_nilFn]
  refine hNa _ (VWp.keepR [0,1,2] [] tt_ok hF rfl fun Nb hNb => ?_); simp only [go_sem, Int.reduceEq, Int.reduceNe, Int.reduceLT, Int.reduceLE, Nat.reduceEqDiff, Nat.reduceAdd, Nat.reduceMul, Nat.reduceLT, Nat.reduceLeDiff, Nat.reduceSub, reduceCtorEq, reduceIte, Int.reduceToNat, beq_self_eq_true, Bool.and_self, ofVal_nilFn]
  refine .inl ⟨_, hp, ?_⟩; try simp only [go_sem, Int.reduceEq, Int.reduceNe, Int.reduceLT, Int.reduceLE, Nat.reduceEqDiff, Nat.reduceAdd, Nat.reduceMul, Nat.reduceLT, Nat.reduceLeDiff, Nat.reduceSub, reduceCtorEq, reduceIte, Int.reduceToNat, beq_self_eq_true, Bool.and_self, ofVal_nilFn]
  refine hNb _ (VWp.keepR [1,2,7,8,9] [7] tt_ok hF rfl fun Nc hNc => ?_); simp only [go_sem, Int.reduceEq, Int.reduceNe, Int.reduceLT, Int.reduceLE, Nat.reduceEqDiff, Nat.reduceAdd, Nat.reduceMul, Nat.reduceLT, Nat.reduceLeDiff, Nat.reduceSub, reduceCtorEq, reduceIte, Int.reduceToNat, beq_self_eq_true, Bool.and_self, ofVal_nilFn]
  try simp only [decide_true, List.length_nil, go_sem, Int.reduceEq, Int.reduceNe, Int.reduceLT, Int.reduceLE, Nat.reduceEqDiff, Nat.reduceAdd, Nat.reduceMul, Nat.reduceLT, Nat.reduceLeDiff, Nat.reduceSub, reduceCtorEq, reduceIte, Int.reduceToNat, beq_self_eq_true, Bool.and_self, ofVal_nilFn]
  refine hNc _ (VWp.keep [6] [] ?_); simp only [go_sem, Int.reduceEq, Int.reduceNe, Int.reduceLT, Int.reduceLE, Nat.reduceEqDiff, Nat.reduceAdd, Nat.reduceMul, Nat.reduceLT, Nat.reduceLeDiff, Nat.reduceSub, reduceCtorEq, reduceIte, Int.reduceToNat, beq_self_eq_true, Bool.and_self, ofVal_nilFn]
  refine vwp_ret ?_
  simp only [go_sem, Int.reduceEq, Int.reduceNe, Int.reduceLT, Int.reduceLE, Nat.reduceEqDiff, Nat.reduceAdd, Nat.reduceMul, Nat.reduceLT, Nat.reduceLeDiff, Nat.reduceSub, reduceCtorEq, reduceIte, Int.reduceToNat, beq_self_eq_true, Bool.and_self, ofVal_nilFn]
  exact LeV.refl _
def txt1 : Bs := [83, 84, 79, 82, 69, 32, 49, 54, 51, 56, 52, 10, 80, 65, 82, 84, 32, 56, 49, 57, 50, 32, 65, 10, 85, 78, 73, 84, 32, 48, 48, 67, 32, 82, 69, 65, 68, 69, 82, 10]
def cfg1 : CfgT := ⟨[⟨12, 1, [], 0, 0⟩], 16384, [⟨8192, [65]⟩]⟩
theorem parse1 : parseT txt1 = (cfg1, 0, 0) := by kernel_rfl
theorem dec_16384 : decDigits 16384 = [49, 54, 51, 56, 52] := by
  rw [decDigits, dif_neg (by decide), decDigits, dif_neg (by decide), decDigits, dif_neg (by decide), decDigits, dif_neg (by decide), decDigits, dif_pos (by decide)]; rfl
theorem dec_8192 : decDigits 8192 = [56, 49, 57, 50] := by
  rw [decDigits, dif_neg (by decide), decDigits, dif_neg (by decide), decDigits, dif_neg (by decide), decDigits, dif_pos (by decide)]; rfl
theorem print1 : printT cfg1 = txt1 := by
  have h1 : decI 16384 = [49, 54, 51, 56, 52] := dec_16384
  have h2 : decI 8192 = [56, 49, 57, 50] := dec_8192
  unfold printT linesC cfg1 storeW
  simp only [List.map_cons, List.map_nil, partW, unitW, h1, h2]
  rfl
theorem chk1 : chkE cfg1 = 0 := by kernel_rfl
end Go.Proofs.YtedbbinlcdgkoaaGreatDoor

/- Layer 19: works. -/
-- SIMP: beq_self_eq_true, Bool.and_self, ofVal_nilFn
namespace Go.Proofs.YtedbbinlcdgkoaaGreatDoor
open Go.RowKit Go.Lib
set_option linter.unusedVariables false
set_option linter.unusedSimpArgs false
def txt2 : Bs := [32, 32, 83, 84, 79, 82, 69, 32, 32, 32, 49, 54, 51, 56, 52, 10, 42, 32, 97, 32, 99, 111, 109, 109, 101, 110, 116, 10, 80, 65, 82, 84, 32, 50, 48, 52, 56, 32, 65, 66, 10, 85, 78, 73, 84, 32, 49, 57, 49, 32, 68, 73, 83, 75, 32, 86, 79, 76, 48, 48, 50, 32, 52, 32, 50, 10, 85, 78, 73, 84, 32, 49, 57, 48, 32, 84, 65, 80, 69, 32, 84, 49]
def cfg2 : CfgT := ⟨[⟨400, 4, [84, 49], 0, 0⟩, ⟨401, 5, [86, 79, 76, 48, 48, 50], 4, 2⟩], 16384, [⟨2048, [65, 66]⟩]⟩
theorem parse2 : parseT txt2 = (cfg2, 0, 0) := by kernel_rfl
theorem bad0 : parseT [83, 84, 79, 82, 69, 32, 49, 54, 51, 56, 52, 10, 83, 84, 79, 82, 69, 32, 49, 54, 51, 56, 52] = (zeroC, 2, 190) := by kernel_rfl
theorem bad1 : parseT [83, 84, 79, 82, 69, 32, 49, 54, 51, 56, 52, 10, 80, 65, 82, 84, 32, 56, 49, 57, 50, 32, 65, 65] = (zeroC, 2, 190) := by kernel_rfl
theorem bad2 : parseT [83, 84, 79, 82, 69, 32, 48, 49, 54, 51, 56, 52] = (zeroC, 1, 190) := by kernel_rfl
theorem bad3 : parseT [83, 84, 79, 82, 69, 32, 49, 54, 48, 48, 48] = (zeroC, 1, 190) := by kernel_rfl
theorem bad4 : parseT [85, 78, 73, 84, 32, 52, 48, 48, 32, 82, 69, 65, 68, 69, 82] = (zeroC, 1, 190) := by kernel_rfl
theorem bad5 : parseT [85, 78, 73, 84, 32, 48, 48, 99, 32, 82, 69, 65, 68, 69, 82] = (zeroC, 1, 190) := by kernel_rfl
theorem bad6 : parseT [83, 84, 79, 82, 69, 32, 49, 54, 51, 56, 52] = (zeroC, 0, 190) := by kernel_rfl
theorem bad7 : parseT [] = (zeroC, 0, 190) := by kernel_rfl
theorem bad8 : parseT [83, 84, 79, 82, 69, 32, 56, 49, 57, 50, 10, 80, 65, 82, 84, 32, 50, 48, 52, 56, 32, 65] = (zeroC, 0, 190) := by kernel_rfl
set_option maxHeartbeats 16000000 in
set_option maxRecDepth 100000 in
theorem works_spec : Spec Tryz.prog 13 [] (.bool true) := by
  have hp1 := Parse_spec txt1 (by decide)
  rw [parse1] at hp1
  have hp2 := Parse_spec txt2 (by decide)
  rw [parse2] at hp2
  unfold resC cfgC cfg1 txt1 uniC parC at hp1
  unfold resC cfgC cfg2 txt2 uniC parC at hp2
  simp only [List.map_cons, List.map_nil] at hp1 hp2
  have hpr := Print_spec cfg1
  unfold prtR at hpr
  rw [if_pos chk1, chk1, print1] at hpr
  have hck := Check_spec cfg1
  rw [chk1] at hck
  unfold cfgC cfg1 txt1 uniC parC at hpr
  unfold cfgC cfg1 uniC parC at hck
  simp only [List.map_cons, List.map_nil] at hpr hck
  have hb0 := fails_spec _ _ _ (by decide) bad0
  have hb1 := fails_spec _ _ _ (by decide) bad1
  have hb2 := fails_spec _ _ _ (by decide) bad2
  have hb3 := fails_spec _ _ _ (by decide) bad3
  have hb4 := fails_spec _ _ _ (by decide) bad4
  have hb5 := fails_spec _ _ _ (by decide) bad5
  have hb6 := fails_spec _ _ _ (by decide) bad6
  have hb7 := fails_spec _ _ _ (by decide) bad7
  have hb8 := fails_spec _ _ _ (by decide) bad8
  refine spec_of tt_ok Tryz.func13 rfl (by decide) Tryz.ntmps13 (congrArg Array.toList Tryz.results13) (by simp) (by decide) rfl rfl (fun F hF => ?_)
  refine vwp_seq_k fun Na hNa => vreg tt_ok hF rfl ?_; simp only [go_sem, Int.reduceEq, Int.reduceNe, Int.reduceLT, Int.reduceLE, Nat.reduceEqDiff, Nat.reduceAdd, Nat.reduceMul, Nat.reduceLT, Nat.reduceLeDiff, Nat.reduceSub, reduceCtorEq, reduceIte, Int.reduceToNat, beq_self_eq_true, Bool.and_self, ofVal_nilFn]
  refine hNa _ (VWp.keepR [] [] tt_ok hF rfl fun Nb hNb => ?_); simp only [go_sem, Int.reduceEq, Int.reduceNe, Int.reduceLT, Int.reduceLE, Nat.reduceEqDiff, Nat.reduceAdd, Nat.reduceMul, Nat.reduceLT, Nat.reduceLeDiff, Nat.reduceSub, reduceCtorEq, reduceIte, Int.reduceToNat, beq_self_eq_true, Bool.and_self, ofVal_nilFn]
  refine .inl ⟨_, hp1, ?_⟩; try simp only [go_sem, Int.reduceEq, Int.reduceNe, Int.reduceLT, Int.reduceLE, Nat.reduceEqDiff, Nat.reduceAdd, Nat.reduceMul, Nat.reduceLT, Nat.reduceLeDiff, Nat.reduceSub, reduceCtorEq, reduceIte, Int.reduceToNat, beq_self_eq_true, Bool.and_self, ofVal_nilFn]
  refine hNb _ (VWp.keepR [1,2,3] [1] tt_ok hF rfl fun Nc hNc => ?_); simp only [go_sem, Int.reduceEq, Int.reduceNe, Int.reduceLT, Int.reduceLE, Nat.reduceEqDiff, Nat.reduceAdd, Nat.reduceMul, Nat.reduceLT, Nat.reduceLeDiff, Nat.reduceSub, reduceCtorEq, reduceIte, Int.reduceToNat, beq_self_eq_true, Bool.and_self, ofVal_nilFn]
  try simp only [List.length_cons, List.length_nil, List.getD_cons_zero, go_sem, Int.reduceEq, Int.reduceNe, Int.reduceLT, Int.reduceLE, Nat.reduceEqDiff, Nat.reduceAdd, Nat.reduceMul, Nat.reduceLT, Nat.reduceLeDiff, Nat.reduceSub, reduceCtorEq, reduceIte, Int.reduceToNat, beq_self_eq_true, Bool.and_self, ofVal_nilFn]
  refine hNc _ (VWp.keepR [1,4] [1] tt_ok hF rfl fun Nd hNd => ?_); simp only [go_sem, Int.reduceEq, Int.reduceNe, Int.reduceLT, Int.reduceLE, Nat.reduceEqDiff, Nat.reduceAdd, Nat.reduceMul, Nat.reduceLT, Nat.reduceLeDiff, Nat.reduceSub, reduceCtorEq, reduceIte, Int.reduceToNat, beq_self_eq_true, Bool.and_self, ofVal_nilFn]
  refine .inl ⟨_, hp2, ?_⟩; try simp only [go_sem, Int.reduceEq, Int.reduceNe, Int.reduceLT, Int.reduceLE, Nat.reduceEqDiff, Nat.reduceAdd, Nat.reduceMul, Nat.reduceLT, Nat.reduceLeDiff, Nat.reduceSub, reduceCtorEq, reduceIte, Int.reduceToNat, beq_self_eq_true, Bool.and_self, ofVal_nilFn]
  refine hNd _ (VWp.keepR [1,2,3,4,5] [1,5] tt_ok hF rfl fun Ne hNe => ?_); simp only [go_sem, Int.reduceEq, Int.reduceNe, Int.reduceLT, Int.reduceLE, Nat.reduceEqDiff, Nat.reduceAdd, Nat.reduceMul, Nat.reduceLT, Nat.reduceLeDiff, Nat.reduceSub, reduceCtorEq, reduceIte, Int.reduceToNat, beq_self_eq_true, Bool.and_self, ofVal_nilFn]
  try simp only [List.length_cons, List.length_nil, List.getD_cons_zero, List.getD_cons_succ, go_sem, Int.reduceEq, Int.reduceNe, Int.reduceLT, Int.reduceLE, Nat.reduceEqDiff, Nat.reduceAdd, Nat.reduceMul, Nat.reduceLT, Nat.reduceLeDiff, Nat.reduceSub, reduceCtorEq, reduceIte, Int.reduceToNat, beq_self_eq_true, Bool.and_self, ofVal_nilFn]
  refine hNe _ (VWp.keepR [1,4,6] [1] tt_ok hF rfl fun Nf hNf => ?_); simp only [go_sem, Int.reduceEq, Int.reduceNe, Int.reduceLT, Int.reduceLE, Nat.reduceEqDiff, Nat.reduceAdd, Nat.reduceMul, Nat.reduceLT, Nat.reduceLeDiff, Nat.reduceSub, reduceCtorEq, reduceIte, Int.reduceToNat, beq_self_eq_true, Bool.and_self, ofVal_nilFn]
  refine .inl ⟨_, hb0, ?_⟩; try simp only [go_sem, Int.reduceEq, Int.reduceNe, Int.reduceLT, Int.reduceLE, Nat.reduceEqDiff, Nat.reduceAdd, Nat.reduceMul, Nat.reduceLT, Nat.reduceLeDiff, Nat.reduceSub, reduceCtorEq, reduceIte, Int.reduceToNat, beq_self_eq_true, Bool.and_self, ofVal_nilFn]
  refine .inl ⟨_, hb1, ?_⟩; try simp only [go_sem, Int.reduceEq, Int.reduceNe, Int.reduceLT, Int.reduceLE, Nat.reduceEqDiff, Nat.reduceAdd, Nat.reduceMul, Nat.reduceLT, Nat.reduceLeDiff, Nat.reduceSub, reduceCtorEq, reduceIte, Int.reduceToNat, beq_self_eq_true, Bool.and_self, ofVal_nilFn]
  refine .inl ⟨_, hb2, ?_⟩; try simp only [go_sem, Int.reduceEq, Int.reduceNe, Int.reduceLT, Int.reduceLE, Nat.reduceEqDiff, Nat.reduceAdd, Nat.reduceMul, Nat.reduceLT, Nat.reduceLeDiff, Nat.reduceSub, reduceCtorEq, reduceIte, Int.reduceToNat, beq_self_eq_true, Bool.and_self, ofVal_nilFn]
  refine .inl ⟨_, hb3, ?_⟩; try simp only [go_sem, Int.reduceEq, Int.reduceNe, Int.reduceLT, Int.reduceLE, Nat.reduceEqDiff, Nat.reduceAdd, Nat.reduceMul, Nat.reduceLT, Nat.reduceLeDiff, Nat.reduceSub, reduceCtorEq, reduceIte, Int.reduceToNat, beq_self_eq_true, Bool.and_self, ofVal_nilFn]
  refine .inl ⟨_, hb4, ?_⟩; try simp only [go_sem, Int.reduceEq, Int.reduceNe, Int.reduceLT, Int.reduceLE, Nat.reduceEqDiff, Nat.reduceAdd, Nat.reduceMul, Nat.reduceLT, Nat.reduceLeDiff, Nat.reduceSub, reduceCtorEq, reduceIte, Int.reduceToNat, beq_self_eq_true, Bool.and_self, ofVal_nilFn]
  refine .inl ⟨_, hb5, ?_⟩; try simp only [go_sem, Int.reduceEq, Int.reduceNe, Int.reduceLT, Int.reduceLE, Nat.reduceEqDiff, Nat.reduceAdd, Nat.reduceMul, Nat.reduceLT, Nat.reduceLeDiff, Nat.reduceSub, reduceCtorEq, reduceIte, Int.reduceToNat, beq_self_eq_true, Bool.and_self, ofVal_nilFn]
  refine hNf _ (VWp.keepR [1,4,6,7] [1] tt_ok hF rfl fun Ng hNg => ?_); simp only [go_sem, Int.reduceEq, Int.reduceNe, Int.reduceLT, Int.reduceLE, Nat.reduceEqDiff, Nat.reduceAdd, Nat.reduceMul, Nat.reduceLT, Nat.reduceLeDiff, Nat.reduceSub, reduceCtorEq, reduceIte, Int.reduceToNat, beq_self_eq_true, Bool.and_self, ofVal_nilFn]
  refine .inl ⟨_, hb6, ?_⟩; try simp only [go_sem, Int.reduceEq, Int.reduceNe, Int.reduceLT, Int.reduceLE, Nat.reduceEqDiff, Nat.reduceAdd, Nat.reduceMul, Nat.reduceLT, Nat.reduceLeDiff, Nat.reduceSub, reduceCtorEq, reduceIte, Int.reduceToNat, beq_self_eq_true, Bool.and_self, ofVal_nilFn]
  refine .inl ⟨_, hb7, ?_⟩; try simp only [go_sem, Int.reduceEq, Int.reduceNe, Int.reduceLT, Int.reduceLE, Nat.reduceEqDiff, Nat.reduceAdd, Nat.reduceMul, Nat.reduceLT, Nat.reduceLeDiff, Nat.reduceSub, reduceCtorEq, reduceIte, Int.reduceToNat, beq_self_eq_true, Bool.and_self, ofVal_nilFn]
  refine .inl ⟨_, hb8, ?_⟩; try simp only [go_sem, Int.reduceEq, Int.reduceNe, Int.reduceLT, Int.reduceLE, Nat.reduceEqDiff, Nat.reduceAdd, Nat.reduceMul, Nat.reduceLT, Nat.reduceLeDiff, Nat.reduceSub, reduceCtorEq, reduceIte, Int.reduceToNat, beq_self_eq_true, Bool.and_self, ofVal_nilFn]
  refine hNg _ (VWp.keepR [1,4,6,7,8] [1] tt_ok hF rfl fun Nh hNh => ?_); simp only [go_sem, Int.reduceEq, Int.reduceNe, Int.reduceLT, Int.reduceLE, Nat.reduceEqDiff, Nat.reduceAdd, Nat.reduceMul, Nat.reduceLT, Nat.reduceLeDiff, Nat.reduceSub, reduceCtorEq, reduceIte, Int.reduceToNat, beq_self_eq_true, Bool.and_self, ofVal_nilFn]
  refine .inl ⟨_, hpr, ?_⟩; try simp only [go_sem, Int.reduceEq, Int.reduceNe, Int.reduceLT, Int.reduceLE, Nat.reduceEqDiff, Nat.reduceAdd, Nat.reduceMul, Nat.reduceLT, Nat.reduceLeDiff, Nat.reduceSub, reduceCtorEq, reduceIte, Int.reduceToNat, beq_self_eq_true, Bool.and_self, ofVal_nilFn]
  refine hNh _ (VWp.keepR [1,4,6,7,8,9,10] [1] tt_ok hF rfl fun Ni hNi => ?_); simp only [go_sem, Int.reduceEq, Int.reduceNe, Int.reduceLT, Int.reduceLE, Nat.reduceEqDiff, Nat.reduceAdd, Nat.reduceMul, Nat.reduceLT, Nat.reduceLeDiff, Nat.reduceSub, reduceCtorEq, reduceIte, Int.reduceToNat, beq_self_eq_true, Bool.and_self, ofVal_nilFn]
  refine .inl ⟨_, hck, ?_⟩; try simp only [go_sem, Int.reduceEq, Int.reduceNe, Int.reduceLT, Int.reduceLE, Nat.reduceEqDiff, Nat.reduceAdd, Nat.reduceMul, Nat.reduceLT, Nat.reduceLeDiff, Nat.reduceSub, reduceCtorEq, reduceIte, Int.reduceToNat, beq_self_eq_true, Bool.and_self, ofVal_nilFn]
  refine hNi _ (VWp.keep [0] [] ?_); simp only [go_sem, Int.reduceEq, Int.reduceNe, Int.reduceLT, Int.reduceLE, Nat.reduceEqDiff, Nat.reduceAdd, Nat.reduceMul, Nat.reduceLT, Nat.reduceLeDiff, Nat.reduceSub, reduceCtorEq, reduceIte, Int.reduceToNat, beq_self_eq_true, Bool.and_self, ofVal_nilFn]
  refine vwp_ret ?_
  simp only [go_sem, Int.reduceEq, Int.reduceNe, Int.reduceLT, Int.reduceLE, Nat.reduceEqDiff, Nat.reduceAdd, Nat.reduceMul, Nat.reduceLT, Nat.reduceLeDiff, Nat.reduceSub, reduceCtorEq, reduceIte, Int.reduceToNat, beq_self_eq_true, Bool.and_self, ofVal_nilFn]
  first | exact LeV.refl _ | exact LeV.of_eq (by simp)
end Go.Proofs.YtedbbinlcdgkoaaGreatDoor

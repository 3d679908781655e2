import Derived.Outline
import Derived.Test.YtjedikaidbobdaaGreatDoorUA
/- Layer 22: records are put into blocks. -/
-- SIMP: beq_self_eq_true, Bool.and_self, u8_solid, List.length_append, List.map_append
namespace Go.Proofs.YtjedikaidbobdaaGreatDoor
open Go.RowKit
set_option linter.unusedVariables false
set_option linter.unusedSimpArgs false
def blkR (b : Tb) : List V := [u8V b]
def flN (d : DcbT) (outs : List Tb) : List (Nat × Ob) := [(1000000, .box 45 [.nil]), (1000001, .box 41 (dcbC d)), (1000002, .box 42 [.own 1000004 outs.length]), (1000004, .arr 1 45 (outs.map blkR))]
set_option maxHeartbeats 4000000 in
set_option maxRecDepth 4000 in
theorem flush_nil (d : DcbT) (outs : List Tb) : SpecB Tryz.prog 62 [.ptr 1000000 0, .ptr 1000001 0, .ptr 1000002 0] (flN d outs) (.tup []) (flN d outs) := by
  simp only [flN, dcbC]
  refine specB_of tt_ok Tryz.func62 rfl (by decide) Tryz.ntmps62 (congrArg Array.toList Tryz.results62) (by simp) (by decide) rfl (by simp only [go_sem, Int.reduceEq, Int.reduceNe, Int.reduceLT, Int.reduceLE, Nat.reduceEqDiff, Nat.reduceAdd, Nat.reduceMul, Nat.reduceLT, Nat.reduceLeDiff, Nat.reduceSub, reduceCtorEq, reduceIte, Int.reduceToNat, beq_self_eq_true, Bool.and_self, u8_solid, List.length_append, List.map_append]) (fun F hF => ?_)
  refine vwp_seq_k fun Na hNa => ?_
  refine vwp_seq_k fun Nb hNb => vreg tt_ok hF rfl ?_; simp only [go_sem, Int.reduceEq, Int.reduceNe, Int.reduceLT, Int.reduceLE, Nat.reduceEqDiff, Nat.reduceAdd, Nat.reduceMul, Nat.reduceLT, Nat.reduceLeDiff, Nat.reduceSub, reduceCtorEq, reduceIte, Int.reduceToNat, beq_self_eq_true, Bool.and_self, u8_solid, List.length_append, List.map_append]
  refine hNb _ (VWp.keep [0,1,2,5] [1000000,1000001,1000002,1000004] ?_); simp only [go_sem, Int.reduceEq, Int.reduceNe, Int.reduceLT, Int.reduceLE, Nat.reduceEqDiff, Nat.reduceAdd, Nat.reduceMul, Nat.reduceLT, Nat.reduceLeDiff, Nat.reduceSub, reduceCtorEq, reduceIte, Int.reduceToNat, beq_self_eq_true, Bool.and_self, u8_solid, List.length_append, List.map_append]
  refine vif rfl ⟨fun ht => ?_, (fun hf => by cases hf)⟩
  refine vwp_ret ?_
  simp only [go_sem, Int.reduceEq, Int.reduceNe, Int.reduceLT, Int.reduceLE, Nat.reduceEqDiff, Nat.reduceAdd, Nat.reduceMul, Nat.reduceLT, Nat.reduceLeDiff, Nat.reduceSub, reduceCtorEq, reduceIte, Int.reduceToNat, beq_self_eq_true, Bool.and_self, u8_solid, List.length_append, List.map_append]
  first | exact LeV.refl _ | exact ⟨LeV.refl _, by simp⟩
set_option maxHeartbeats 4000000 in
set_option maxRecDepth 4000 in
theorem flush_fix (d : DcbT) (hd : d.fmt ≠ 2) (r : Tb) (hr0 : r ≠ []) (hr : r.length ≤ 100000) (outs : List Tb) (ho : outs.length ≤ 100000) : SpecB Tryz.prog 62 [.ptr 1000000 0, .ptr 1000001 0, .ptr 1000002 0]
    [(1000000, .box 45 [.own 1000063 r.length]), (1000001, .box 41 (dcbC d)), (1000002, .box 42 [.own 1000004 outs.length]), (1000004, .arr 1 45 (outs.map blkR)), (1000063, .arr 1 5 (r.map u8c))] (.tup [])
    [(1000000, .box 45 [.nil]), (1000001, .box 41 (dcbC d)), (1000002, .box 42 [.own 1000004 (outs.length + 1)]), (1000004, .arr 1 45 (outs.map blkR ++ [[.sl 1 (r.map u8c)]])), (1000063, .arr 1 5 (r.map u8c))] := by
  have hpos : 0 < r.length := List.length_pos_iff.2 hr0
  simp only [dcbC]
  refine specB_of tt_ok Tryz.func62 rfl (by decide) Tryz.ntmps62 (congrArg Array.toList Tryz.results62) (by simp) (by decide) rfl (by simp only [go_sem, Int.reduceEq, Int.reduceNe, Int.reduceLT, Int.reduceLE, Nat.reduceEqDiff, Nat.reduceAdd, Nat.reduceMul, Nat.reduceLT, Nat.reduceLeDiff, Nat.reduceSub, reduceCtorEq, reduceIte, Int.reduceToNat, beq_self_eq_true, Bool.and_self, u8_solid, List.length_append, List.map_append]) (fun F hF => ?_)
  refine vwp_seq_k fun Na hNa => ?_
  refine vwp_seq_k fun Nb hNb => vreg tt_ok hF rfl ?_; simp only [go_sem, Int.reduceEq, Int.reduceNe, Int.reduceLT, Int.reduceLE, Nat.reduceEqDiff, Nat.reduceAdd, Nat.reduceMul, Nat.reduceLT, Nat.reduceLeDiff, Nat.reduceSub, reduceCtorEq, reduceIte, Int.reduceToNat, beq_self_eq_true, Bool.and_self, u8_solid, List.length_append, List.map_append]
  refine hNb _ (VWp.keep [0,1,2,5] [1000000,1000001,1000002,1000004,1000063] ?_); simp only [go_sem, Int.reduceEq, Int.reduceNe, Int.reduceLT, Int.reduceLE, Nat.reduceEqDiff, Nat.reduceAdd, Nat.reduceMul, Nat.reduceLT, Nat.reduceLeDiff, Nat.reduceSub, reduceCtorEq, reduceIte, Int.reduceToNat, beq_self_eq_true, Bool.and_self, u8_solid, List.length_append, List.map_append]
  refine vif rfl ⟨(fun ht => absurd (of_decide_eq_true ht) (by omega)), fun hf => ?_⟩
  refine vwp_skip (hNa _ ?_)
  refine vwp_seq_k fun Nc hNc => ?_
  refine vwp_seq_k fun Nd hNd => vreg tt_ok hF rfl ?_; simp only [go_sem, Int.reduceEq, Int.reduceNe, Int.reduceLT, Int.reduceLE, Nat.reduceEqDiff, Nat.reduceAdd, Nat.reduceMul, Nat.reduceLT, Nat.reduceLeDiff, Nat.reduceSub, reduceCtorEq, reduceIte, Int.reduceToNat, beq_self_eq_true, Bool.and_self, u8_solid, List.length_append, List.map_append]
  refine hNd _ (VWp.keep [0,2,8] [1000000,1000001,1000002,1000004,1000063] ?_); simp only [go_sem, Int.reduceEq, Int.reduceNe, Int.reduceLT, Int.reduceLE, Nat.reduceEqDiff, Nat.reduceAdd, Nat.reduceMul, Nat.reduceLT, Nat.reduceLeDiff, Nat.reduceSub, reduceCtorEq, reduceIte, Int.reduceToNat, beq_self_eq_true, Bool.and_self, u8_solid, List.length_append, List.map_append]
  refine vif rfl ⟨(fun ht => absurd (of_decide_eq_true ht) hd), fun hf => ?_⟩
  refine vwp_skip (hNc _ ?_)
  refine vwp_seq_k fun Ne hNe => vreg tt_ok hF rfl ?_; simp only [go_sem, Int.reduceEq, Int.reduceNe, Int.reduceLT, Int.reduceLE, Nat.reduceEqDiff, Nat.reduceAdd, Nat.reduceMul, Nat.reduceLT, Nat.reduceLeDiff, Nat.reduceSub, reduceCtorEq, reduceIte, Int.reduceToNat, beq_self_eq_true, Bool.and_self, u8_solid, List.length_append, List.map_append]
  refine ⟨by omega, ?_⟩
  refine hNe _ (VWp.keep [0] [1000000,1000001,1000002,1000004,1000063] ?_); simp only [go_sem, Int.reduceEq, Int.reduceNe, Int.reduceLT, Int.reduceLE, Nat.reduceEqDiff, Nat.reduceAdd, Nat.reduceMul, Nat.reduceLT, Nat.reduceLeDiff, Nat.reduceSub, reduceCtorEq, reduceIte, Int.reduceToNat, beq_self_eq_true, Bool.and_self, u8_solid, List.length_append, List.map_append]
  refine vreg tt_ok hF rfl ?_; simp only [go_sem, Int.reduceEq, Int.reduceNe, Int.reduceLT, Int.reduceLE, Nat.reduceEqDiff, Nat.reduceAdd, Nat.reduceMul, Nat.reduceLT, Nat.reduceLeDiff, Nat.reduceSub, reduceCtorEq, reduceIte, Int.reduceToNat, beq_self_eq_true, Bool.and_self, u8_solid, List.length_append, List.map_append]
  first | exact LeV.refl _ | exact ⟨LeV.refl _, by simp⟩
set_option maxHeartbeats 4000000 in
set_option maxRecDepth 4000 in
theorem flush_var (d : DcbT) (hd : d.fmt = 2) (r : Tb) (hr : r.length ≤ 100000) (outs : List Tb) (ho : outs.length ≤ 100000) : SpecB Tryz.prog 62 [.ptr 1000000 0, .ptr 1000001 0, .ptr 1000002 0]
    [(1000000, .box 45 [.own 1000054 (r.length + 4)]), (1000001, .box 41 (dcbC d)), (1000002, .box 42 [.own 1000004 outs.length]), (1000004, .arr 1 45 (outs.map blkR)), (1000054, .arr 1 5 ([.any] :: [.any] :: [.any] :: [.any] :: r.map u8c))] (.tup [])
    [(1000000, .box 45 [.nil]), (1000001, .box 41 (dcbC d)), (1000002, .box 42 [.own 1000004 (outs.length + 1)]), (1000004, .arr 1 45 (outs.map blkR ++ [[.sl 1 ((desT (r.length + 4) ++ r).map u8c)]])), (1000054, .arr 1 5 ((desT (r.length + 4) ++ r).map u8c))] := by
  have hdes := descriptor_spec (r.length + 4) (by omega)
  rw [List.map_append, des_v]
  unfold u8V at hdes
  rw [des_v] at hdes
  simp only [dcbC]
  refine specB_of tt_ok Tryz.func62 rfl (by decide) Tryz.ntmps62 (congrArg Array.toList Tryz.results62) (by simp) (by decide) rfl (by simp only [go_sem, Int.reduceEq, Int.reduceNe, Int.reduceLT, Int.reduceLE, Nat.reduceEqDiff, Nat.reduceAdd, Nat.reduceMul, Nat.reduceLT, Nat.reduceLeDiff, Nat.reduceSub, reduceCtorEq, reduceIte, Int.reduceToNat, beq_self_eq_true, Bool.and_self, u8_solid, List.length_append, List.map_append]) (fun F hF => ?_)
  refine vwp_seq_k fun Na hNa => ?_
  refine vwp_seq_k fun Nb hNb => vreg tt_ok hF rfl ?_; simp only [go_sem, Int.reduceEq, Int.reduceNe, Int.reduceLT, Int.reduceLE, Nat.reduceEqDiff, Nat.reduceAdd, Nat.reduceMul, Nat.reduceLT, Nat.reduceLeDiff, Nat.reduceSub, reduceCtorEq, reduceIte, Int.reduceToNat, beq_self_eq_true, Bool.and_self, u8_solid, List.length_append, List.map_append]
  refine hNb _ (VWp.keep [0,1,2,5] [1000000,1000001,1000002,1000004,1000054] ?_); simp only [go_sem, Int.reduceEq, Int.reduceNe, Int.reduceLT, Int.reduceLE, Nat.reduceEqDiff, Nat.reduceAdd, Nat.reduceMul, Nat.reduceLT, Nat.reduceLeDiff, Nat.reduceSub, reduceCtorEq, reduceIte, Int.reduceToNat, beq_self_eq_true, Bool.and_self, u8_solid, List.length_append, List.map_append]
  refine vif rfl ⟨(fun ht => absurd (of_decide_eq_true ht) (by omega)), fun hf => ?_⟩
  refine vwp_skip (hNa _ ?_)
  refine vwp_seq_k fun Nc hNc => ?_
  refine vwp_seq_k fun Nd hNd => vreg tt_ok hF rfl ?_; simp only [go_sem, Int.reduceEq, Int.reduceNe, Int.reduceLT, Int.reduceLE, Nat.reduceEqDiff, Nat.reduceAdd, Nat.reduceMul, Nat.reduceLT, Nat.reduceLeDiff, Nat.reduceSub, reduceCtorEq, reduceIte, Int.reduceToNat, beq_self_eq_true, Bool.and_self, u8_solid, List.length_append, List.map_append]
  refine hNd _ (VWp.keep [0,2,8] [1000000,1000001,1000002,1000004,1000054] ?_); simp only [go_sem, Int.reduceEq, Int.reduceNe, Int.reduceLT, Int.reduceLE, Nat.reduceEqDiff, Nat.reduceAdd, Nat.reduceMul, Nat.reduceLT, Nat.reduceLeDiff, Nat.reduceSub, reduceCtorEq, reduceIte, Int.reduceToNat, beq_self_eq_true, Bool.and_self, u8_solid, List.length_append, List.map_append]
  refine vif rfl ⟨fun ht => ?_, (fun hf => absurd hd (of_decide_eq_false hf))⟩
  refine vregd tt_ok mixed hF rfl (by kernel_rfl) (by kernel_rfl) ?_; simp only [go_sem, Int.reduceEq, Int.reduceNe, Int.reduceLT, Int.reduceLE, Nat.reduceEqDiff, Nat.reduceAdd, Nat.reduceMul, Nat.reduceLT, Nat.reduceLeDiff, Nat.reduceSub, reduceCtorEq, reduceIte, Int.reduceToNat, beq_self_eq_true, Bool.and_self, u8_solid, List.length_append, List.map_append]
  refine .inl ⟨_, hdes, ?_⟩; try simp only [go_sem, Int.reduceEq, Int.reduceNe, Int.reduceLT, Int.reduceLE, Nat.reduceEqDiff, Nat.reduceAdd, Nat.reduceMul, Nat.reduceLT, Nat.reduceLeDiff, Nat.reduceSub, reduceCtorEq, reduceIte, Int.reduceToNat, beq_self_eq_true, Bool.and_self, u8_solid, List.length_append, List.map_append]
  refine hNc _ (VWp.keepR [0,2] [1000000,1000001,1000002,1000004,1000054] tt_ok hF rfl fun Ne hNe => ?_); simp only [go_sem, Int.reduceEq, Int.reduceNe, Int.reduceLT, Int.reduceLE, Nat.reduceEqDiff, Nat.reduceAdd, Nat.reduceMul, Nat.reduceLT, Nat.reduceLeDiff, Nat.reduceSub, reduceCtorEq, reduceIte, Int.reduceToNat, beq_self_eq_true, Bool.and_self, u8_solid, List.length_append, List.map_append]
  refine ⟨by omega, ?_⟩
  refine hNe _ (VWp.keep [0] [1000000,1000001,1000002,1000004,1000054] ?_); simp only [go_sem, Int.reduceEq, Int.reduceNe, Int.reduceLT, Int.reduceLE, Nat.reduceEqDiff, Nat.reduceAdd, Nat.reduceMul, Nat.reduceLT, Nat.reduceLeDiff, Nat.reduceSub, reduceCtorEq, reduceIte, Int.reduceToNat, beq_self_eq_true, Bool.and_self, u8_solid, List.length_append, List.map_append]
  refine vreg tt_ok hF rfl ?_; simp only [go_sem, Int.reduceEq, Int.reduceNe, Int.reduceLT, Int.reduceLE, Nat.reduceEqDiff, Nat.reduceAdd, Nat.reduceMul, Nat.reduceLT, Nat.reduceLeDiff, Nat.reduceSub, reduceCtorEq, reduceIte, Int.reduceToNat, beq_self_eq_true, Bool.and_self, u8_solid, List.length_append, List.map_append]
  first | exact LeV.refl _ | exact ⟨LeV.refl _, by simp⟩
theorem des_len (n : Nat) : (desT n).length = 4 := rfl
structure BkS where
  k : Nat
  outs : List Tb
  cur : Option Tb
def curF (v : Bool) : Option Tb → Tb
  | none => []
  | some r => if v then [0, 0, 0, 0] ++ r else r
structure BkI (d : DcbT) (l : List Tb) (v : Bool) (x : BkS) : Prop where
  le : x.k ≤ l.length
  eq : (x.outs, curF v x.cur) = (l.take x.k).foldl (stepT d) ([], [])
  ne : ∀ r, x.cur = some r → r ≠ []
  ln : ∀ r, x.cur = some r → r.length ≤ 1100
  ol : x.outs.length ≤ x.k
  ft : ∀ j < x.k, fitT d ((l.getD j []).length) = true
theorem step_next {d : DcbT} {l : List Tb} {v : Bool} {k : Nat} {outs2 : List Tb} {c2 : Option Tb} (hlt : k < l.length) (hk : k ≤ l.length) (hft : ∀ j < k, fitT d ((l.getD j []).length) = true) (hfit : fitT d (l[k].length : Int) = true)
    {r2 : Tb} (hc : c2 = some r2) (hs : (outs2, curF v c2) = stepT d ((l.take k).foldl (stepT d) ([], [])) l[k]) (h1 : r2 ≠ []) (h2 : r2.length ≤ 1100) (h3 : outs2.length ≤ k + 1) : BkI d l v ⟨k + 1, outs2, c2⟩ := by
  subst hc
  refine ⟨hlt, ?_, fun r q => by injection q with q; subst q; exact h1, fun r q => by injection q with q; subst q; exact h2, h3, fun j hj => ?_⟩
  · rw [hs, List.take_succ_eq_append_getElem hlt, List.foldl_append]; rfl
  · rcases Nat.lt_or_ge j k with q | q
    · exact hft j q
    · have hj : j < k + 1 := hj
      have : j = k := by omega
      subst this
      rw [List.getD_eq_getElem?_getD, List.getElem?_eq_getElem hlt]; exact hfit
theorem fit_len {d : DcbT} (h : chkT d = true) {r : Tb} (hr : fitT d (r.length : Int) = true) : r.length ≤ 1024 := by
  obtain ⟨o1, o2, b1, b2, hl, _⟩ := chk_parts h
  unfold fitT at hr
  unfold lensT at hl
  split at hr
  · rename_i e
    rw [if_pos e] at hl
    simp only [Bool.and_eq_true, decide_eq_true_eq] at hl hr
    omega
  · rename_i e
    rw [if_neg e] at hl
    split at hr
    · rename_i e2
      rw [if_pos e2] at hl
      simp only [Bool.and_eq_true, decide_eq_true_eq] at hl hr
      omega
    · simp only [Bool.and_eq_true, decide_eq_true_eq] at hr
      omega
theorem ne_of_fit {d : DcbT} (h : chkT d = true) {r : Tb} (hr : fitT d (r.length : Int) = true) : r ≠ [] := fit_ne h hr
def blkE (d : DcbT) (l : List Tb) : List Tb × Int := if chkT d = true then (if l.length ≤ 4096 then (if l.all fun r => fitT d r.length then (blkT d l, 0) else ([], 220)) else ([], 2)) else ([], 5)
theorem blkE_bad {d : DcbT} (h : chkT d = true) {l : List Tb} (hl : l.length ≤ 4096) {r : Tb} (hr : r ∈ l) (hb : fitT d r.length = false) : blkE d l = ([], 220) := by
  unfold blkE
  rw [if_pos h, if_pos hl, if_neg]
  intro q
  rw [List.all_eq_true.1 q r hr] at hb; cases hb
theorem blkE_ok {d : DcbT} (h : chkT d = true) {l : List Tb} (hl : l.length ≤ 4096) (hf : ∀ r ∈ l, fitT d r.length = true) : blkE d l = (blkT d l, 0) := by
  unfold blkE
  rw [if_pos h, if_pos hl, if_pos (List.all_eq_true.2 hf)]
def bkT (l : List Tb) (x : BkS) : List (Nat × V) := [(2, .ptr 2 0), (7, .ptr 7 0), (8, .ptr 8 0), (9, .fn (.func 62) [.ptr 8 0, .ptr 2 0, .ptr 7 0]), (21, .sl 1 (l.map blkR)), (22, .int .i64 (l.length : Int)), (23, .int .i64 (x.k : Int))]
def bkO (B : Nat) (v : Bool) (d : DcbT) (x : BkS) : List (Nat × Ob) := match x.cur with
  | none => [(2, .box 41 (dcbC d)), (7, .box 42 [.own 17 x.outs.length]), (8, .box 45 [.nil]), (17, .arr 1 45 (x.outs.map blkR))]
  | some r => [(2, .box 41 (dcbC d)), (7, .box 42 [.own 17 x.outs.length]), (8, .box 45 [.own B (if v then r.length + 4 else r.length)]), (17, .arr 1 45 (x.outs.map blkR)), (B, .arr 1 5 (if v then [.any] :: [.any] :: [.any] :: [.any] :: r.map u8c else r.map u8c))]
set_option maxHeartbeats 16000000 in
set_option maxRecDepth 4000 in
theorem Block_fix (d : DcbT) (h : chkT d = true) (hd : d.fmt ≠ 2) (l : List Tb) (hl : l.length ≤ 4096) :
    Spec Tryz.prog 41 [dcbV d, .sl 1 (l.map blkR)] (.tup [.sl 1 ((blkE d l).1.map blkR), .int .i64 (blkE d l).2]) := by
  obtain ⟨o1, o2, b1, b2, _, _⟩ := chk_parts h
  have hchk := Check_spec d
  have e0 : chkE d = 0 := by unfold chkE; rw [if_pos h]
  rw [e0] at hchk
  unfold dcbV at hchk ⊢
  simp only [dcbC] at hchk ⊢
  refine spec_of tt_ok Tryz.func41 rfl (by decide) Tryz.ntmps41 (congrArg Array.toList Tryz.results41) (by simp) (by decide) rfl rfl (fun F hF => ?_)
  refine vwp_seq_k fun Na hNa => vreg tt_ok hF rfl ?_; simp only [go_sem, Int.reduceEq, Int.reduceNe, Int.reduceLT, Int.reduceLE, Nat.reduceEqDiff, Nat.reduceAdd, Nat.reduceMul, Nat.reduceLT, Nat.reduceLeDiff, Nat.reduceSub, reduceCtorEq, reduceIte, Int.reduceToNat, beq_self_eq_true, Bool.and_self, u8_solid, List.length_append, List.map_append]
  refine hNa _ (VWp.keep [1,2] [2] ?_); simp only [go_sem, Int.reduceEq, Int.reduceNe, Int.reduceLT, Int.reduceLE, Nat.reduceEqDiff, Nat.reduceAdd, Nat.reduceMul, Nat.reduceLT, Nat.reduceLeDiff, Nat.reduceSub, reduceCtorEq, reduceIte, Int.reduceToNat, beq_self_eq_true, Bool.and_self, u8_solid, List.length_append, List.map_append]
  refine vwp_seq_k fun Nb hNb => ?_
  refine vwp_seq_k fun Nc hNc => vreg tt_ok hF rfl ?_; simp only [go_sem, Int.reduceEq, Int.reduceNe, Int.reduceLT, Int.reduceLE, Nat.reduceEqDiff, Nat.reduceAdd, Nat.reduceMul, Nat.reduceLT, Nat.reduceLeDiff, Nat.reduceSub, reduceCtorEq, reduceIte, Int.reduceToNat, beq_self_eq_true, Bool.and_self, u8_solid, List.length_append, List.map_append]
  refine .inl ⟨_, hchk, ?_⟩; try simp only [go_sem, Int.reduceEq, Int.reduceNe, Int.reduceLT, Int.reduceLE, Nat.reduceEqDiff, Nat.reduceAdd, Nat.reduceMul, Nat.reduceLT, Nat.reduceLeDiff, Nat.reduceSub, reduceCtorEq, reduceIte, Int.reduceToNat, beq_self_eq_true, Bool.and_self, u8_solid, List.length_append, List.map_append]
  refine hNc _ (VWp.keepR [1,2,6] [2] tt_ok hF rfl fun Nd hNd => ?_); simp only [go_sem, Int.reduceEq, Int.reduceNe, Int.reduceLT, Int.reduceLE, Nat.reduceEqDiff, Nat.reduceAdd, Nat.reduceMul, Nat.reduceLT, Nat.reduceLeDiff, Nat.reduceSub, reduceCtorEq, reduceIte, Int.reduceToNat, beq_self_eq_true, Bool.and_self, u8_solid, List.length_append, List.map_append]
  refine hNd _ (VWp.keep [1,2,6,15] [2] ?_); simp only [go_sem, Int.reduceEq, Int.reduceNe, Int.reduceLT, Int.reduceLE, Nat.reduceEqDiff, Nat.reduceAdd, Nat.reduceMul, Nat.reduceLT, Nat.reduceLeDiff, Nat.reduceSub, reduceCtorEq, reduceIte, Int.reduceToNat, beq_self_eq_true, Bool.and_self, u8_solid, List.length_append, List.map_append]
  refine vif rfl ⟨(fun ht => by cases ht), fun hf => ?_⟩
  refine vwp_skip (hNb _ ?_)
  refine vwp_seq_k fun Nf hNf => ?_
  refine vwp_seq_k fun Ng hNg => vreg tt_ok hF rfl ?_; simp only [go_sem, Int.reduceEq, Int.reduceNe, Int.reduceLT, Int.reduceLE, Nat.reduceEqDiff, Nat.reduceAdd, Nat.reduceMul, Nat.reduceLT, Nat.reduceLeDiff, Nat.reduceSub, reduceCtorEq, reduceIte, Int.reduceToNat, beq_self_eq_true, Bool.and_self, u8_solid, List.length_append, List.map_append]
  refine hNg _ (VWp.keep [1,2,19] [2] ?_); simp only [go_sem, Int.reduceEq, Int.reduceNe, Int.reduceLT, Int.reduceLE, Nat.reduceEqDiff, Nat.reduceAdd, Nat.reduceMul, Nat.reduceLT, Nat.reduceLeDiff, Nat.reduceSub, reduceCtorEq, reduceIte, Int.reduceToNat, beq_self_eq_true, Bool.and_self, u8_solid, List.length_append, List.map_append]
  refine vif rfl ⟨(fun ht => absurd (of_decide_eq_true ht) (by omega)), fun hf => ?_⟩
  refine vwp_skip (hNf _ ?_)
  refine vwp_seq_k fun Ni hNi => vreg tt_ok hF rfl ?_; simp only [go_sem, Int.reduceEq, Int.reduceNe, Int.reduceLT, Int.reduceLE, Nat.reduceEqDiff, Nat.reduceAdd, Nat.reduceMul, Nat.reduceLT, Nat.reduceLeDiff, Nat.reduceSub, reduceCtorEq, reduceIte, Int.reduceToNat, beq_self_eq_true, Bool.and_self, u8_solid, List.length_append, List.map_append]
  refine hNi _ (VWp.keepR [1,2,7] [2,7] tt_ok hF rfl fun Nj hNj => ?_); simp only [go_sem, Int.reduceEq, Int.reduceNe, Int.reduceLT, Int.reduceLE, Nat.reduceEqDiff, Nat.reduceAdd, Nat.reduceMul, Nat.reduceLT, Nat.reduceLeDiff, Nat.reduceSub, reduceCtorEq, reduceIte, Int.reduceToNat, beq_self_eq_true, Bool.and_self, u8_solid, List.length_append, List.map_append]
  refine hNj _ (VWp.keep [1,2,7,8] [2,7,8] ?_); simp only [go_sem, Int.reduceEq, Int.reduceNe, Int.reduceLT, Int.reduceLE, Nat.reduceEqDiff, Nat.reduceAdd, Nat.reduceMul, Nat.reduceLT, Nat.reduceLeDiff, Nat.reduceSub, reduceCtorEq, reduceIte, Int.reduceToNat, beq_self_eq_true, Bool.and_self, u8_solid, List.length_append, List.map_append]
  refine VWp.adoptB 17 1 45 (o := 7) (i := 0) (T := 42) (cs := [.nil]) rfl rfl rfl (by decide) ?_
  simp only [go_sem, Int.reduceEq, Int.reduceNe, Int.reduceLT, Int.reduceLE, Nat.reduceEqDiff, Nat.reduceAdd, Nat.reduceMul, Nat.reduceLT, Nat.reduceLeDiff, Nat.reduceSub, reduceCtorEq, reduceIte, Int.reduceToNat, beq_self_eq_true, Bool.and_self, u8_solid, List.length_append, List.map_append]
  refine vwp_seq_k fun Nk hNk => vreg tt_ok hF rfl ?_; simp only [go_sem, Int.reduceEq, Int.reduceNe, Int.reduceLT, Int.reduceLE, Nat.reduceEqDiff, Nat.reduceAdd, Nat.reduceMul, Nat.reduceLT, Nat.reduceLeDiff, Nat.reduceSub, reduceCtorEq, reduceIte, Int.reduceToNat, beq_self_eq_true, Bool.and_self, u8_solid, List.length_append, List.map_append]
  refine hNk _ (VWp.keep [1,2,7,8,9] [2,7,8,17] ?_); simp only [go_sem, Int.reduceEq, Int.reduceNe, Int.reduceLT, Int.reduceLE, Nat.reduceEqDiff, Nat.reduceAdd, Nat.reduceMul, Nat.reduceLT, Nat.reduceLeDiff, Nat.reduceSub, reduceCtorEq, reduceIte, Int.reduceToNat, beq_self_eq_true, Bool.and_self, u8_solid, List.length_append, List.map_append]
  refine vwp_seq_k fun Nl hNl => ?_
  refine vwp_seq_k fun Nm hNm => vreg tt_ok hF rfl ?_; simp only [go_sem, Int.reduceEq, Int.reduceNe, Int.reduceLT, Int.reduceLE, Nat.reduceEqDiff, Nat.reduceAdd, Nat.reduceMul, Nat.reduceLT, Nat.reduceLeDiff, Nat.reduceSub, reduceCtorEq, reduceIte, Int.reduceToNat, beq_self_eq_true, Bool.and_self, u8_solid, List.length_append, List.map_append]
  refine hNm _ (VWp.keep [2,7,8,9,21,22,23] [2,7,8,17] ?_); simp only [go_sem, Int.reduceEq, Int.reduceNe, Int.reduceLT, Int.reduceLE, Nat.reduceEqDiff, Nat.reduceAdd, Nat.reduceMul, Nat.reduceLT, Nat.reduceLeDiff, Nat.reduceSub, reduceCtorEq, reduceIte, Int.reduceToNat, beq_self_eq_true, Bool.and_self, u8_solid, List.length_append, List.map_append]
  refine vwp_block (vloop (bkT l) (bkO 63 false d) (BkI d l false) (fun x => l.length - x.k) ⟨0, [], none⟩ ⟨by simp, rfl, (fun r q => by cases q), (fun r q => by cases q), by simp, (fun j hj => absurd hj (by simp))⟩ (by simp only [bkT, bkO, dcbC, go_sem, Int.reduceEq, Int.reduceNe, Int.reduceLT, Int.reduceLE, Nat.reduceEqDiff, Nat.reduceAdd, Nat.reduceMul, Nat.reduceLT, Nat.reduceLeDiff, Nat.reduceSub, reduceCtorEq, reduceIte, Int.reduceToNat, beq_self_eq_true, Bool.and_self, u8_solid, List.length_append, List.map_append]) ?_)
  rintro ⟨k, outs, cur⟩ ⟨hk, heq, hne, hln, hol, hft⟩
  simp only at hk heq hne hln hol hft
  cases cur with
  | none =>
    simp only [bkT, bkO]
    have hfl0 := flush_nil d outs
    simp only [flN, dcbC, dcbV] at hfl0 ⊢
    refine vwp_seq_k fun Nn hNn => vreg tt_ok hF rfl ?_; simp only [go_sem, Int.reduceEq, Int.reduceNe, Int.reduceLT, Int.reduceLE, Nat.reduceEqDiff, Nat.reduceAdd, Nat.reduceMul, Nat.reduceLT, Nat.reduceLeDiff, Nat.reduceSub, reduceCtorEq, reduceIte, Int.reduceToNat, beq_self_eq_true, Bool.and_self, u8_solid, List.length_append, List.map_append]
    refine hNn _ (VWp.keep [2,7,8,9,21,22,23,24] [2,7,8,17] ?_); simp only [go_sem, Int.reduceEq, Int.reduceNe, Int.reduceLT, Int.reduceLE, Nat.reduceEqDiff, Nat.reduceAdd, Nat.reduceMul, Nat.reduceLT, Nat.reduceLeDiff, Nat.reduceSub, reduceCtorEq, reduceIte, Int.reduceToNat, beq_self_eq_true, Bool.and_self, u8_solid, List.length_append, List.map_append]
    refine vwp_seq_k fun No hNo => ?_
    refine vif rfl ⟨fun ht => ?_, fun hf => ?_⟩
    · have hlt : k < l.length := by have := of_decide_eq_true ht; omega
      have hget : (l.map blkR).getD k [] = [V.sl 1 (l[k].map u8c)] := by simp [List.getD_eq_getElem?_getD, List.getElem?_eq_getElem hlt, blkR, u8V]
      have hfits := fits_spec d h (l[k].length : Int)
      have hmem := List.getElem_mem hlt
      simp only [dcbV, dcbC] at hfits
      refine vwp_skip (hNo _ ?_)
      refine vwp_seq_k fun Np hNp => ?_
      refine vwp_block ?_
      refine vwp_seq_k fun Nq hNq => vreg tt_ok hF rfl ?_; simp only [go_sem, Int.reduceEq, Int.reduceNe, Int.reduceLT, Int.reduceLE, Nat.reduceEqDiff, Nat.reduceAdd, Nat.reduceMul, Nat.reduceLT, Nat.reduceLeDiff, Nat.reduceSub, reduceCtorEq, reduceIte, Int.reduceToNat, beq_self_eq_true, Bool.and_self, u8_solid, List.length_append, List.map_append]
      simp only [hget, List.length_map, go_sem, Int.reduceEq, Int.reduceNe, Int.reduceLT, Int.reduceLE, Nat.reduceEqDiff, Nat.reduceAdd, Nat.reduceMul, Nat.reduceLT, Nat.reduceLeDiff, Nat.reduceSub, reduceCtorEq, reduceIte, Int.reduceToNat, beq_self_eq_true, Bool.and_self, u8_solid, List.length_append, List.map_append]
      refine ⟨⟨by omega, by omega⟩, ?_⟩
      refine hNq _ (VWp.keep [2,7,8,9,11,21,22,23] [2,7,8,17] ?_); simp only [go_sem, Int.reduceEq, Int.reduceNe, Int.reduceLT, Int.reduceLE, Nat.reduceEqDiff, Nat.reduceAdd, Nat.reduceMul, Nat.reduceLT, Nat.reduceLeDiff, Nat.reduceSub, reduceCtorEq, reduceIte, Int.reduceToNat, beq_self_eq_true, Bool.and_self, u8_solid, List.length_append, List.map_append]
      refine vwp_seq_k fun Nr hNr => ?_
      refine vwp_seq_k fun Ns hNs => vreg tt_ok hF rfl ?_; simp only [go_sem, Int.reduceEq, Int.reduceNe, Int.reduceLT, Int.reduceLE, Nat.reduceEqDiff, Nat.reduceAdd, Nat.reduceMul, Nat.reduceLT, Nat.reduceLeDiff, Nat.reduceSub, reduceCtorEq, reduceIte, Int.reduceToNat, beq_self_eq_true, Bool.and_self, u8_solid, List.length_append, List.map_append]
      refine .inl ⟨_, hfits, ?_⟩; try simp only [go_sem, Int.reduceEq, Int.reduceNe, Int.reduceLT, Int.reduceLE, Nat.reduceEqDiff, Nat.reduceAdd, Nat.reduceMul, Nat.reduceLT, Nat.reduceLeDiff, Nat.reduceSub, reduceCtorEq, reduceIte, Int.reduceToNat, beq_self_eq_true, Bool.and_self, u8_solid, List.length_append, List.map_append]
      refine hNs _ (VWp.keep [2,7,8,9,11,21,22,23,31] [2,7,8,17] ?_); simp only [go_sem, Int.reduceEq, Int.reduceNe, Int.reduceLT, Int.reduceLE, Nat.reduceEqDiff, Nat.reduceAdd, Nat.reduceMul, Nat.reduceLT, Nat.reduceLeDiff, Nat.reduceSub, reduceCtorEq, reduceIte, Int.reduceToNat, beq_self_eq_true, Bool.and_self, u8_solid, List.length_append, List.map_append]
      refine vif rfl ⟨fun ht1 => ?_, fun hf1 => ?_⟩
      · refine vwp_seq_k fun Nt hNt => vreg tt_ok hF rfl ?_; simp only [go_sem, Int.reduceEq, Int.reduceNe, Int.reduceLT, Int.reduceLE, Nat.reduceEqDiff, Nat.reduceAdd, Nat.reduceMul, Nat.reduceLT, Nat.reduceLeDiff, Nat.reduceSub, reduceCtorEq, reduceIte, Int.reduceToNat, beq_self_eq_true, Bool.and_self, u8_solid, List.length_append, List.map_append]
        refine hNt _ (VWp.keep [4,5] [] ?_); simp only [go_sem, Int.reduceEq, Int.reduceNe, Int.reduceLT, Int.reduceLE, Nat.reduceEqDiff, Nat.reduceAdd, Nat.reduceMul, Nat.reduceLT, Nat.reduceLeDiff, Nat.reduceSub, reduceCtorEq, reduceIte, Int.reduceToNat, beq_self_eq_true, Bool.and_self, u8_solid, List.length_append, List.map_append]
        refine vwp_ret ?_
        simp only [go_sem, Int.reduceEq, Int.reduceNe, Int.reduceLT, Int.reduceLE, Nat.reduceEqDiff, Nat.reduceAdd, Nat.reduceMul, Nat.reduceLT, Nat.reduceLeDiff, Nat.reduceSub, reduceCtorEq, reduceIte, Int.reduceToNat, beq_self_eq_true, Bool.and_self, u8_solid, List.length_append, List.map_append]
        rw [blkE_bad h hl hmem (by simpa using ht1)]
        exact LeV.tup ⟨LeV.nil _, LeV.refl _, trivial⟩
      · have hfit : fitT d (l[k].length : Int) = true := by simpa using hf1
        have hrl := fit_len h hfit
        have hlen := length_spec d l[k] (by omega)
        have hll : lenT d l[k] = l[k].length := by unfold lenT; rw [if_neg hd]
        rw [hll] at hlen
        simp only [dcbV, dcbC, u8V] at hlen
        refine vwp_skip (hNr _ ?_)
        refine vwp_seq_k fun Nu hNu => ?_
        have hbc : d.bl = false ∨ d.bl = true := by cases d.bl <;> simp
        rcases hbc with hb | hb
        · have hnb : (!d.bl) = true := by rw [hb]; rfl
          refine vwp_seq_k fun Nv hNv => vregd tt_ok mixed hF rfl (by kernel_rfl) (by kernel_rfl) ?_; simp only [go_sem, Int.reduceEq, Int.reduceNe, Int.reduceLT, Int.reduceLE, Nat.reduceEqDiff, Nat.reduceAdd, Nat.reduceMul, Nat.reduceLT, Nat.reduceLeDiff, Nat.reduceSub, reduceCtorEq, reduceIte, Int.reduceToNat, beq_self_eq_true, Bool.and_self, u8_solid, List.length_append, List.map_append]
          simp only [hnb, go_sem, Int.reduceEq, Int.reduceNe, Int.reduceLT, Int.reduceLE, Nat.reduceEqDiff, Nat.reduceAdd, Nat.reduceMul, Nat.reduceLT, Nat.reduceLeDiff, Nat.reduceSub, reduceCtorEq, reduceIte, Int.reduceToNat, beq_self_eq_true, Bool.and_self, u8_solid, List.length_append, List.map_append]
          refine hNv _ (VWp.keep [2,7,8,9,11,21,22,23,45] [2,7,8,17] ?_); simp only [go_sem, Int.reduceEq, Int.reduceNe, Int.reduceLT, Int.reduceLE, Nat.reduceEqDiff, Nat.reduceAdd, Nat.reduceMul, Nat.reduceLT, Nat.reduceLeDiff, Nat.reduceSub, reduceCtorEq, reduceIte, Int.reduceToNat, beq_self_eq_true, Bool.and_self, u8_solid, List.length_append, List.map_append]
          have hcond : (!d.bl || decide (d.blk < ((curF false none).length + lenT d l[k] : Nat))) = true := by rw [hb]; rfl
          refine vif rfl ⟨fun ht => ?_, (fun hf => by cases hf)⟩
          refine vreg tt_ok hF rfl ?_; simp only [go_sem, Int.reduceEq, Int.reduceNe, Int.reduceLT, Int.reduceLE, Nat.reduceEqDiff, Nat.reduceAdd, Nat.reduceMul, Nat.reduceLT, Nat.reduceLeDiff, Nat.reduceSub, reduceCtorEq, reduceIte, Int.reduceToNat, beq_self_eq_true, Bool.and_self, u8_solid, List.length_append, List.map_append]
          refine .inr (bxo [(1000000, 8), (1000001, 2), (1000002, 7), (1000004, 17)] rfl ?_); simp only [go_sem, Int.reduceEq, Int.reduceNe, Int.reduceLT, Int.reduceLE, Nat.reduceEqDiff, Nat.reduceAdd, Nat.reduceMul, Nat.reduceLT, Nat.reduceLeDiff, Nat.reduceSub, reduceCtorEq, reduceIte, Int.reduceToNat, beq_self_eq_true, Bool.and_self, u8_solid, List.length_append, List.map_append]; refine ⟨_, _, hfl0, ?_⟩; try simp only [go_sem, Int.reduceEq, Int.reduceNe, Int.reduceLT, Int.reduceLE, Nat.reduceEqDiff, Nat.reduceAdd, Nat.reduceMul, Nat.reduceLT, Nat.reduceLeDiff, Nat.reduceSub, reduceCtorEq, reduceIte, Int.reduceToNat, beq_self_eq_true, Bool.and_self, u8_solid, List.length_append, List.map_append]
          refine hNu _ (VWp.keep [2,7,8,9,11,21,22,23] [2,7,8,17] ?_); simp only [go_sem, Int.reduceEq, Int.reduceNe, Int.reduceLT, Int.reduceLE, Nat.reduceEqDiff, Nat.reduceAdd, Nat.reduceMul, Nat.reduceLT, Nat.reduceLeDiff, Nat.reduceSub, reduceCtorEq, reduceIte, Int.reduceToNat, beq_self_eq_true, Bool.and_self, u8_solid, List.length_append, List.map_append]
          have hs01 : (outs, curF false (some (l[k]))) = stepT d (outs, curF false none) l[k] := by
            unfold stepT; simp only []; rw [if_pos (by rw [hcond])]; simp [flushT, putT, curF, hd]
          refine vwp_seq_k fun Nw hNw => ?_
          refine vwp_seq_k fun Nx hNx => vreg tt_ok hF rfl ?_; simp only [go_sem, Int.reduceEq, Int.reduceNe, Int.reduceLT, Int.reduceLE, Nat.reduceEqDiff, Nat.reduceAdd, Nat.reduceMul, Nat.reduceLT, Nat.reduceLeDiff, Nat.reduceSub, reduceCtorEq, reduceIte, Int.reduceToNat, beq_self_eq_true, Bool.and_self, u8_solid, List.length_append, List.map_append]
          refine hNx _ (VWp.keep [2,7,8,9,11,21,22,23,50] [2,7,8,17] ?_); simp only [go_sem, Int.reduceEq, Int.reduceNe, Int.reduceLT, Int.reduceLE, Nat.reduceEqDiff, Nat.reduceAdd, Nat.reduceMul, Nat.reduceLT, Nat.reduceLeDiff, Nat.reduceSub, reduceCtorEq, reduceIte, Int.reduceToNat, beq_self_eq_true, Bool.and_self, u8_solid, List.length_append, List.map_append]
          refine vif rfl ⟨(fun ht2 => absurd (of_decide_eq_true ht2) hd), fun hf2 => ?_⟩
          refine vwp_skip (hNw _ ?_)
          refine vreg tt_ok hF rfl ?_; simp only [go_sem, Int.reduceEq, Int.reduceNe, Int.reduceLT, Int.reduceLE, Nat.reduceEqDiff, Nat.reduceAdd, Nat.reduceMul, Nat.reduceLT, Nat.reduceLeDiff, Nat.reduceSub, reduceCtorEq, reduceIte, Int.reduceToNat, beq_self_eq_true, Bool.and_self, u8_solid, List.length_append, List.map_append]
          refine ⟨by omega, ?_⟩
          refine hNp _ (VWp.keep [2,7,8,9,21,22,23] [2,7,8,17,63] ?_); simp only [go_sem, Int.reduceEq, Int.reduceNe, Int.reduceLT, Int.reduceLE, Nat.reduceEqDiff, Nat.reduceAdd, Nat.reduceMul, Nat.reduceLT, Nat.reduceLeDiff, Nat.reduceSub, reduceCtorEq, reduceIte, Int.reduceToNat, beq_self_eq_true, Bool.and_self, u8_solid, List.length_append, List.map_append]
          refine vreg tt_ok hF rfl ?_; simp only [go_sem, Int.reduceEq, Int.reduceNe, Int.reduceLT, Int.reduceLE, Nat.reduceEqDiff, Nat.reduceAdd, Nat.reduceMul, Nat.reduceLT, Nat.reduceLeDiff, Nat.reduceSub, reduceCtorEq, reduceIte, Int.reduceToNat, beq_self_eq_true, Bool.and_self, u8_solid, List.length_append, List.map_append]
          rw [wrap_i64 (by omega) (by omega)]
          refine ⟨⟨k + 1, outs, some (l[k])⟩, step_next hlt hk hft hfit rfl (by rw [← heq]; exact hs01) (by first | exact ne_of_fit h hfit | simp [ne_of_fit h hfit]) (by first | omega | (simp; omega)) (by first | omega | (simp; omega)), by show l.length - (k + 1) < l.length - k; omega, ?_⟩
          simp only [bkT, bkO, go_sem, Int.reduceEq, Int.reduceNe, Int.reduceLT, Int.reduceLE, Nat.reduceEqDiff, Nat.reduceAdd, Nat.reduceMul, Nat.reduceLT, Nat.reduceLeDiff, Nat.reduceSub, reduceCtorEq, reduceIte, Int.reduceToNat, beq_self_eq_true, Bool.and_self, u8_solid, List.length_append, List.map_append]
          simp [blkR, u8V]
        · have hnb : (!d.bl) = false := by rw [hb]; rfl
          refine vwp_seq_k fun Nv hNv => vregd tt_ok mixed hF rfl (by kernel_rfl) (by kernel_rfl) ?_; simp only [go_sem, Int.reduceEq, Int.reduceNe, Int.reduceLT, Int.reduceLE, Nat.reduceEqDiff, Nat.reduceAdd, Nat.reduceMul, Nat.reduceLT, Nat.reduceLeDiff, Nat.reduceSub, reduceCtorEq, reduceIte, Int.reduceToNat, beq_self_eq_true, Bool.and_self, u8_solid, List.length_append, List.map_append]
          simp only [hnb, go_sem, Int.reduceEq, Int.reduceNe, Int.reduceLT, Int.reduceLE, Nat.reduceEqDiff, Nat.reduceAdd, Nat.reduceMul, Nat.reduceLT, Nat.reduceLeDiff, Nat.reduceSub, reduceCtorEq, reduceIte, Int.reduceToNat, beq_self_eq_true, Bool.and_self, u8_solid, List.length_append, List.map_append]
          refine .inl ⟨_, hlen, ?_⟩; try simp only [go_sem, Int.reduceEq, Int.reduceNe, Int.reduceLT, Int.reduceLE, Nat.reduceEqDiff, Nat.reduceAdd, Nat.reduceMul, Nat.reduceLT, Nat.reduceLeDiff, Nat.reduceSub, reduceCtorEq, reduceIte, Int.reduceToNat, beq_self_eq_true, Bool.and_self, u8_solid, List.length_append, List.map_append]
          try simp only [hnb, go_sem, Int.reduceEq, Int.reduceNe, Int.reduceLT, Int.reduceLE, Nat.reduceEqDiff, Nat.reduceAdd, Nat.reduceMul, Nat.reduceLT, Nat.reduceLeDiff, Nat.reduceSub, reduceCtorEq, reduceIte, Int.reduceToNat, beq_self_eq_true, Bool.and_self, u8_solid, List.length_append, List.map_append]
          rw [wrap_i64 (by omega) (by omega)]
          refine hNv _ (VWp.keep [2,7,8,9,11,21,22,23,45] [2,7,8,17] ?_); simp only [go_sem, Int.reduceEq, Int.reduceNe, Int.reduceLT, Int.reduceLE, Nat.reduceEqDiff, Nat.reduceAdd, Nat.reduceMul, Nat.reduceLT, Nat.reduceLeDiff, Nat.reduceSub, reduceCtorEq, reduceIte, Int.reduceToNat, beq_self_eq_true, Bool.and_self, u8_solid, List.length_append, List.map_append]
          have hcl : ((curF false none).length : Int) + (lenT d l[k] : Int) = (0 : Int) + ((l[k].length : Nat) : Int) := by rw [hll]; first | (simp [curF]; done) | (simp [curF]; omega)
          refine vif rfl ⟨fun ht => ?_, fun hf => ?_⟩
          · have hcond : (!d.bl || decide (d.blk < ((curF false none).length + lenT d l[k] : Nat))) = true := by rw [hb, Int.natCast_add, hcl, ht]; rfl
            refine vreg tt_ok hF rfl ?_; simp only [go_sem, Int.reduceEq, Int.reduceNe, Int.reduceLT, Int.reduceLE, Nat.reduceEqDiff, Nat.reduceAdd, Nat.reduceMul, Nat.reduceLT, Nat.reduceLeDiff, Nat.reduceSub, reduceCtorEq, reduceIte, Int.reduceToNat, beq_self_eq_true, Bool.and_self, u8_solid, List.length_append, List.map_append]
            refine .inr (bxo [(1000000, 8), (1000001, 2), (1000002, 7), (1000004, 17)] rfl ?_); simp only [go_sem, Int.reduceEq, Int.reduceNe, Int.reduceLT, Int.reduceLE, Nat.reduceEqDiff, Nat.reduceAdd, Nat.reduceMul, Nat.reduceLT, Nat.reduceLeDiff, Nat.reduceSub, reduceCtorEq, reduceIte, Int.reduceToNat, beq_self_eq_true, Bool.and_self, u8_solid, List.length_append, List.map_append]; refine ⟨_, _, hfl0, ?_⟩; try simp only [go_sem, Int.reduceEq, Int.reduceNe, Int.reduceLT, Int.reduceLE, Nat.reduceEqDiff, Nat.reduceAdd, Nat.reduceMul, Nat.reduceLT, Nat.reduceLeDiff, Nat.reduceSub, reduceCtorEq, reduceIte, Int.reduceToNat, beq_self_eq_true, Bool.and_self, u8_solid, List.length_append, List.map_append]
            refine hNu _ (VWp.keep [2,7,8,9,11,21,22,23] [2,7,8,17] ?_); simp only [go_sem, Int.reduceEq, Int.reduceNe, Int.reduceLT, Int.reduceLE, Nat.reduceEqDiff, Nat.reduceAdd, Nat.reduceMul, Nat.reduceLT, Nat.reduceLeDiff, Nat.reduceSub, reduceCtorEq, reduceIte, Int.reduceToNat, beq_self_eq_true, Bool.and_self, u8_solid, List.length_append, List.map_append]
            have hs01 : (outs, curF false (some (l[k]))) = stepT d (outs, curF false none) l[k] := by
              unfold stepT; simp only []; rw [if_pos (by rw [hcond])]; simp [flushT, putT, curF, hd]
            refine vwp_seq_k fun Nw hNw => ?_
            refine vwp_seq_k fun Nx hNx => vreg tt_ok hF rfl ?_; simp only [go_sem, Int.reduceEq, Int.reduceNe, Int.reduceLT, Int.reduceLE, Nat.reduceEqDiff, Nat.reduceAdd, Nat.reduceMul, Nat.reduceLT, Nat.reduceLeDiff, Nat.reduceSub, reduceCtorEq, reduceIte, Int.reduceToNat, beq_self_eq_true, Bool.and_self, u8_solid, List.length_append, List.map_append]
            refine hNx _ (VWp.keep [2,7,8,9,11,21,22,23,50] [2,7,8,17] ?_); simp only [go_sem, Int.reduceEq, Int.reduceNe, Int.reduceLT, Int.reduceLE, Nat.reduceEqDiff, Nat.reduceAdd, Nat.reduceMul, Nat.reduceLT, Nat.reduceLeDiff, Nat.reduceSub, reduceCtorEq, reduceIte, Int.reduceToNat, beq_self_eq_true, Bool.and_self, u8_solid, List.length_append, List.map_append]
            refine vif rfl ⟨(fun ht2 => absurd (of_decide_eq_true ht2) hd), fun hf2 => ?_⟩
            refine vwp_skip (hNw _ ?_)
            refine vreg tt_ok hF rfl ?_; simp only [go_sem, Int.reduceEq, Int.reduceNe, Int.reduceLT, Int.reduceLE, Nat.reduceEqDiff, Nat.reduceAdd, Nat.reduceMul, Nat.reduceLT, Nat.reduceLeDiff, Nat.reduceSub, reduceCtorEq, reduceIte, Int.reduceToNat, beq_self_eq_true, Bool.and_self, u8_solid, List.length_append, List.map_append]
            refine ⟨by omega, ?_⟩
            refine hNp _ (VWp.keep [2,7,8,9,21,22,23] [2,7,8,17,63] ?_); simp only [go_sem, Int.reduceEq, Int.reduceNe, Int.reduceLT, Int.reduceLE, Nat.reduceEqDiff, Nat.reduceAdd, Nat.reduceMul, Nat.reduceLT, Nat.reduceLeDiff, Nat.reduceSub, reduceCtorEq, reduceIte, Int.reduceToNat, beq_self_eq_true, Bool.and_self, u8_solid, List.length_append, List.map_append]
            refine vreg tt_ok hF rfl ?_; simp only [go_sem, Int.reduceEq, Int.reduceNe, Int.reduceLT, Int.reduceLE, Nat.reduceEqDiff, Nat.reduceAdd, Nat.reduceMul, Nat.reduceLT, Nat.reduceLeDiff, Nat.reduceSub, reduceCtorEq, reduceIte, Int.reduceToNat, beq_self_eq_true, Bool.and_self, u8_solid, List.length_append, List.map_append]
            rw [wrap_i64 (by omega) (by omega)]
            refine ⟨⟨k + 1, outs, some (l[k])⟩, step_next hlt hk hft hfit rfl (by rw [← heq]; exact hs01) (by first | exact ne_of_fit h hfit | simp [ne_of_fit h hfit]) (by first | omega | (simp; omega)) (by first | omega | (simp; omega)), by show l.length - (k + 1) < l.length - k; omega, ?_⟩
            simp only [bkT, bkO, go_sem, Int.reduceEq, Int.reduceNe, Int.reduceLT, Int.reduceLE, Nat.reduceEqDiff, Nat.reduceAdd, Nat.reduceMul, Nat.reduceLT, Nat.reduceLeDiff, Nat.reduceSub, reduceCtorEq, reduceIte, Int.reduceToNat, beq_self_eq_true, Bool.and_self, u8_solid, List.length_append, List.map_append]
            simp [blkR, u8V]
          · have hcond : (!d.bl || decide (d.blk < ((curF false none).length + lenT d l[k] : Nat))) = false := by rw [hb, Int.natCast_add, hcl, hf]; rfl
            have hle := of_decide_eq_false hf
            refine vwp_skip (hNu _ ?_)
            have hs00 : (outs, curF false (some (l[k]))) = stepT d (outs, curF false none) l[k] := by
              unfold stepT; simp only []; rw [if_neg (by rw [hcond]; simp)]; simp [putT, curF, hd]
            refine vwp_seq_k fun Nw hNw => ?_
            refine vwp_seq_k fun Nx hNx => vreg tt_ok hF rfl ?_; simp only [go_sem, Int.reduceEq, Int.reduceNe, Int.reduceLT, Int.reduceLE, Nat.reduceEqDiff, Nat.reduceAdd, Nat.reduceMul, Nat.reduceLT, Nat.reduceLeDiff, Nat.reduceSub, reduceCtorEq, reduceIte, Int.reduceToNat, beq_self_eq_true, Bool.and_self, u8_solid, List.length_append, List.map_append]
            refine hNx _ (VWp.keep [2,7,8,9,11,21,22,23,50] [2,7,8,17] ?_); simp only [go_sem, Int.reduceEq, Int.reduceNe, Int.reduceLT, Int.reduceLE, Nat.reduceEqDiff, Nat.reduceAdd, Nat.reduceMul, Nat.reduceLT, Nat.reduceLeDiff, Nat.reduceSub, reduceCtorEq, reduceIte, Int.reduceToNat, beq_self_eq_true, Bool.and_self, u8_solid, List.length_append, List.map_append]
            refine vif rfl ⟨(fun ht2 => absurd (of_decide_eq_true ht2) hd), fun hf2 => ?_⟩
            refine vwp_skip (hNw _ ?_)
            refine vreg tt_ok hF rfl ?_; simp only [go_sem, Int.reduceEq, Int.reduceNe, Int.reduceLT, Int.reduceLE, Nat.reduceEqDiff, Nat.reduceAdd, Nat.reduceMul, Nat.reduceLT, Nat.reduceLeDiff, Nat.reduceSub, reduceCtorEq, reduceIte, Int.reduceToNat, beq_self_eq_true, Bool.and_self, u8_solid, List.length_append, List.map_append]
            refine ⟨by omega, ?_⟩
            refine hNp _ (VWp.keep [2,7,8,9,21,22,23] [2,7,8,17,63] ?_); simp only [go_sem, Int.reduceEq, Int.reduceNe, Int.reduceLT, Int.reduceLE, Nat.reduceEqDiff, Nat.reduceAdd, Nat.reduceMul, Nat.reduceLT, Nat.reduceLeDiff, Nat.reduceSub, reduceCtorEq, reduceIte, Int.reduceToNat, beq_self_eq_true, Bool.and_self, u8_solid, List.length_append, List.map_append]
            refine vreg tt_ok hF rfl ?_; simp only [go_sem, Int.reduceEq, Int.reduceNe, Int.reduceLT, Int.reduceLE, Nat.reduceEqDiff, Nat.reduceAdd, Nat.reduceMul, Nat.reduceLT, Nat.reduceLeDiff, Nat.reduceSub, reduceCtorEq, reduceIte, Int.reduceToNat, beq_self_eq_true, Bool.and_self, u8_solid, List.length_append, List.map_append]
            rw [wrap_i64 (by omega) (by omega)]
            refine ⟨⟨k + 1, outs, some (l[k])⟩, step_next hlt hk hft hfit rfl (by rw [← heq]; exact hs00) (by first | exact ne_of_fit h hfit | simp [ne_of_fit h hfit]) (by first | omega | (simp; omega)) (by first | omega | (simp; omega)), by show l.length - (k + 1) < l.length - k; omega, ?_⟩
            simp only [bkT, bkO, go_sem, Int.reduceEq, Int.reduceNe, Int.reduceLT, Int.reduceLE, Nat.reduceEqDiff, Nat.reduceAdd, Nat.reduceMul, Nat.reduceLT, Nat.reduceLeDiff, Nat.reduceSub, reduceCtorEq, reduceIte, Int.reduceToNat, beq_self_eq_true, Bool.and_self, u8_solid, List.length_append, List.map_append]
            simp [blkR, u8V]
    · have hkl : k = l.length := by have := of_decide_eq_false hf; omega
      refine vwp_exit ?_
      simp only [go_sem, Int.reduceEq, Int.reduceNe, Int.reduceLT, Int.reduceLE, Nat.reduceEqDiff, Nat.reduceAdd, Nat.reduceMul, Nat.reduceLT, Nat.reduceLeDiff, Nat.reduceSub, reduceCtorEq, reduceIte, Int.reduceToNat, beq_self_eq_true, Bool.and_self, u8_solid, List.length_append, List.map_append]
      refine hNl _ (VWp.keepR [7,9] [2,7,8,17] tt_ok hF rfl fun Naa hNaa => ?_); simp only [go_sem, Int.reduceEq, Int.reduceNe, Int.reduceLT, Int.reduceLE, Nat.reduceEqDiff, Nat.reduceAdd, Nat.reduceMul, Nat.reduceLT, Nat.reduceLeDiff, Nat.reduceSub, reduceCtorEq, reduceIte, Int.reduceToNat, beq_self_eq_true, Bool.and_self, u8_solid, List.length_append, List.map_append]
      refine .inr (bxo [(1000000, 8), (1000001, 2), (1000002, 7), (1000004, 17)] rfl ?_); simp only [go_sem, Int.reduceEq, Int.reduceNe, Int.reduceLT, Int.reduceLE, Nat.reduceEqDiff, Nat.reduceAdd, Nat.reduceMul, Nat.reduceLT, Nat.reduceLeDiff, Nat.reduceSub, reduceCtorEq, reduceIte, Int.reduceToNat, beq_self_eq_true, Bool.and_self, u8_solid, List.length_append, List.map_append]; refine ⟨_, _, hfl0, ?_⟩; try simp only [go_sem, Int.reduceEq, Int.reduceNe, Int.reduceLT, Int.reduceLE, Nat.reduceEqDiff, Nat.reduceAdd, Nat.reduceMul, Nat.reduceLT, Nat.reduceLeDiff, Nat.reduceSub, reduceCtorEq, reduceIte, Int.reduceToNat, beq_self_eq_true, Bool.and_self, u8_solid, List.length_append, List.map_append]
      refine hNaa _ (VWp.keepR [7] [7,17] tt_ok hF rfl fun Nab hNab => ?_); simp only [go_sem, Int.reduceEq, Int.reduceNe, Int.reduceLT, Int.reduceLE, Nat.reduceEqDiff, Nat.reduceAdd, Nat.reduceMul, Nat.reduceLT, Nat.reduceLeDiff, Nat.reduceSub, reduceCtorEq, reduceIte, Int.reduceToNat, beq_self_eq_true, Bool.and_self, u8_solid, List.length_append, List.map_append]
      refine hNab _ (VWp.keep [4,5] [17] ?_); simp only [go_sem, Int.reduceEq, Int.reduceNe, Int.reduceLT, Int.reduceLE, Nat.reduceEqDiff, Nat.reduceAdd, Nat.reduceMul, Nat.reduceLT, Nat.reduceLeDiff, Nat.reduceSub, reduceCtorEq, reduceIte, Int.reduceToNat, beq_self_eq_true, Bool.and_self, u8_solid, List.length_append, List.map_append]
      refine vwp_ret ?_
      simp only [go_sem, Int.reduceEq, Int.reduceNe, Int.reduceLT, Int.reduceLE, Nat.reduceEqDiff, Nat.reduceAdd, Nat.reduceMul, Nat.reduceLT, Nat.reduceLeDiff, Nat.reduceSub, reduceCtorEq, reduceIte, Int.reduceToNat, beq_self_eq_true, Bool.and_self, u8_solid, List.length_append, List.map_append]
      rw [blkE_ok h hl (fun r hr => by obtain ⟨j, hj, rfl⟩ := List.getElem_of_mem hr; have := hft j (by omega); rwa [List.getD_eq_getElem?_getD, List.getElem?_eq_getElem hj] at this), blkT]
      rw [hkl, List.take_length] at heq
      rw [← heq]
      exact LeV.of_eq (by simp [flushT, curF, blkR, u8V])
  | some r1 =>
    simp only [bkT, bkO]
    have hr1 := hln r1 rfl
    have hr0 : 0 < r1.length := List.length_pos_iff.2 (hne r1 rfl)
    have hfl1 := flush_fix d hd r1 (hne _ rfl) (by omega) outs (by omega)
    simp only [flN, dcbC, dcbV] at hfl1 ⊢
    refine vwp_seq_k fun Nn hNn => vreg tt_ok hF rfl ?_; simp only [go_sem, Int.reduceEq, Int.reduceNe, Int.reduceLT, Int.reduceLE, Nat.reduceEqDiff, Nat.reduceAdd, Nat.reduceMul, Nat.reduceLT, Nat.reduceLeDiff, Nat.reduceSub, reduceCtorEq, reduceIte, Int.reduceToNat, beq_self_eq_true, Bool.and_self, u8_solid, List.length_append, List.map_append]
    refine hNn _ (VWp.keep [2,7,8,9,21,22,23,24] [2,7,8,17,63] ?_); simp only [go_sem, Int.reduceEq, Int.reduceNe, Int.reduceLT, Int.reduceLE, Nat.reduceEqDiff, Nat.reduceAdd, Nat.reduceMul, Nat.reduceLT, Nat.reduceLeDiff, Nat.reduceSub, reduceCtorEq, reduceIte, Int.reduceToNat, beq_self_eq_true, Bool.and_self, u8_solid, List.length_append, List.map_append]
    refine vwp_seq_k fun No hNo => ?_
    refine vif rfl ⟨fun ht => ?_, fun hf => ?_⟩
    · have hlt : k < l.length := by have := of_decide_eq_true ht; omega
      have hget : (l.map blkR).getD k [] = [V.sl 1 (l[k].map u8c)] := by simp [List.getD_eq_getElem?_getD, List.getElem?_eq_getElem hlt, blkR, u8V]
      have hfits := fits_spec d h (l[k].length : Int)
      have hmem := List.getElem_mem hlt
      simp only [dcbV, dcbC] at hfits
      refine vwp_skip (hNo _ ?_)
      refine vwp_seq_k fun Np hNp => ?_
      refine vwp_block ?_
      refine vwp_seq_k fun Nq hNq => vreg tt_ok hF rfl ?_; simp only [go_sem, Int.reduceEq, Int.reduceNe, Int.reduceLT, Int.reduceLE, Nat.reduceEqDiff, Nat.reduceAdd, Nat.reduceMul, Nat.reduceLT, Nat.reduceLeDiff, Nat.reduceSub, reduceCtorEq, reduceIte, Int.reduceToNat, beq_self_eq_true, Bool.and_self, u8_solid, List.length_append, List.map_append]
      simp only [hget, List.length_map, go_sem, Int.reduceEq, Int.reduceNe, Int.reduceLT, Int.reduceLE, Nat.reduceEqDiff, Nat.reduceAdd, Nat.reduceMul, Nat.reduceLT, Nat.reduceLeDiff, Nat.reduceSub, reduceCtorEq, reduceIte, Int.reduceToNat, beq_self_eq_true, Bool.and_self, u8_solid, List.length_append, List.map_append]
      refine ⟨⟨by omega, by omega⟩, ?_⟩
      refine hNq _ (VWp.keep [2,7,8,9,11,21,22,23] [2,7,8,17,63] ?_); simp only [go_sem, Int.reduceEq, Int.reduceNe, Int.reduceLT, Int.reduceLE, Nat.reduceEqDiff, Nat.reduceAdd, Nat.reduceMul, Nat.reduceLT, Nat.reduceLeDiff, Nat.reduceSub, reduceCtorEq, reduceIte, Int.reduceToNat, beq_self_eq_true, Bool.and_self, u8_solid, List.length_append, List.map_append]
      refine vwp_seq_k fun Nr hNr => ?_
      refine vwp_seq_k fun Ns hNs => vreg tt_ok hF rfl ?_; simp only [go_sem, Int.reduceEq, Int.reduceNe, Int.reduceLT, Int.reduceLE, Nat.reduceEqDiff, Nat.reduceAdd, Nat.reduceMul, Nat.reduceLT, Nat.reduceLeDiff, Nat.reduceSub, reduceCtorEq, reduceIte, Int.reduceToNat, beq_self_eq_true, Bool.and_self, u8_solid, List.length_append, List.map_append]
      refine .inl ⟨_, hfits, ?_⟩; try simp only [go_sem, Int.reduceEq, Int.reduceNe, Int.reduceLT, Int.reduceLE, Nat.reduceEqDiff, Nat.reduceAdd, Nat.reduceMul, Nat.reduceLT, Nat.reduceLeDiff, Nat.reduceSub, reduceCtorEq, reduceIte, Int.reduceToNat, beq_self_eq_true, Bool.and_self, u8_solid, List.length_append, List.map_append]
      refine hNs _ (VWp.keep [2,7,8,9,11,21,22,23,31] [2,7,8,17,63] ?_); simp only [go_sem, Int.reduceEq, Int.reduceNe, Int.reduceLT, Int.reduceLE, Nat.reduceEqDiff, Nat.reduceAdd, Nat.reduceMul, Nat.reduceLT, Nat.reduceLeDiff, Nat.reduceSub, reduceCtorEq, reduceIte, Int.reduceToNat, beq_self_eq_true, Bool.and_self, u8_solid, List.length_append, List.map_append]
      refine vif rfl ⟨fun ht1 => ?_, fun hf1 => ?_⟩
      · refine vwp_seq_k fun Nt hNt => vreg tt_ok hF rfl ?_; simp only [go_sem, Int.reduceEq, Int.reduceNe, Int.reduceLT, Int.reduceLE, Nat.reduceEqDiff, Nat.reduceAdd, Nat.reduceMul, Nat.reduceLT, Nat.reduceLeDiff, Nat.reduceSub, reduceCtorEq, reduceIte, Int.reduceToNat, beq_self_eq_true, Bool.and_self, u8_solid, List.length_append, List.map_append]
        refine hNt _ (VWp.keep [4,5] [] ?_); simp only [go_sem, Int.reduceEq, Int.reduceNe, Int.reduceLT, Int.reduceLE, Nat.reduceEqDiff, Nat.reduceAdd, Nat.reduceMul, Nat.reduceLT, Nat.reduceLeDiff, Nat.reduceSub, reduceCtorEq, reduceIte, Int.reduceToNat, beq_self_eq_true, Bool.and_self, u8_solid, List.length_append, List.map_append]
        refine vwp_ret ?_
        simp only [go_sem, Int.reduceEq, Int.reduceNe, Int.reduceLT, Int.reduceLE, Nat.reduceEqDiff, Nat.reduceAdd, Nat.reduceMul, Nat.reduceLT, Nat.reduceLeDiff, Nat.reduceSub, reduceCtorEq, reduceIte, Int.reduceToNat, beq_self_eq_true, Bool.and_self, u8_solid, List.length_append, List.map_append]
        rw [blkE_bad h hl hmem (by simpa using ht1)]
        exact LeV.tup ⟨LeV.nil _, LeV.refl _, trivial⟩
      · have hfit : fitT d (l[k].length : Int) = true := by simpa using hf1
        have hrl := fit_len h hfit
        have hlen := length_spec d l[k] (by omega)
        have hll : lenT d l[k] = l[k].length := by unfold lenT; rw [if_neg hd]
        rw [hll] at hlen
        simp only [dcbV, dcbC, u8V] at hlen
        refine vwp_skip (hNr _ ?_)
        refine vwp_seq_k fun Nu hNu => ?_
        have hbc : d.bl = false ∨ d.bl = true := by cases d.bl <;> simp
        rcases hbc with hb | hb
        · have hnb : (!d.bl) = true := by rw [hb]; rfl
          refine vwp_seq_k fun Nv hNv => vregd tt_ok mixed hF rfl (by kernel_rfl) (by kernel_rfl) ?_; simp only [go_sem, Int.reduceEq, Int.reduceNe, Int.reduceLT, Int.reduceLE, Nat.reduceEqDiff, Nat.reduceAdd, Nat.reduceMul, Nat.reduceLT, Nat.reduceLeDiff, Nat.reduceSub, reduceCtorEq, reduceIte, Int.reduceToNat, beq_self_eq_true, Bool.and_self, u8_solid, List.length_append, List.map_append]
          simp only [hnb, go_sem, Int.reduceEq, Int.reduceNe, Int.reduceLT, Int.reduceLE, Nat.reduceEqDiff, Nat.reduceAdd, Nat.reduceMul, Nat.reduceLT, Nat.reduceLeDiff, Nat.reduceSub, reduceCtorEq, reduceIte, Int.reduceToNat, beq_self_eq_true, Bool.and_self, u8_solid, List.length_append, List.map_append]
          refine hNv _ (VWp.keep [2,7,8,9,11,21,22,23,45] [2,7,8,17,63] ?_); simp only [go_sem, Int.reduceEq, Int.reduceNe, Int.reduceLT, Int.reduceLE, Nat.reduceEqDiff, Nat.reduceAdd, Nat.reduceMul, Nat.reduceLT, Nat.reduceLeDiff, Nat.reduceSub, reduceCtorEq, reduceIte, Int.reduceToNat, beq_self_eq_true, Bool.and_self, u8_solid, List.length_append, List.map_append]
          have hcond : (!d.bl || decide (d.blk < ((curF false (some r1)).length + lenT d l[k] : Nat))) = true := by rw [hb]; rfl
          refine vif rfl ⟨fun ht => ?_, (fun hf => by cases hf)⟩
          refine vreg tt_ok hF rfl ?_; simp only [go_sem, Int.reduceEq, Int.reduceNe, Int.reduceLT, Int.reduceLE, Nat.reduceEqDiff, Nat.reduceAdd, Nat.reduceMul, Nat.reduceLT, Nat.reduceLeDiff, Nat.reduceSub, reduceCtorEq, reduceIte, Int.reduceToNat, beq_self_eq_true, Bool.and_self, u8_solid, List.length_append, List.map_append]
          refine .inr (bxo [(1000000, 8), (1000001, 2), (1000002, 7), (1000004, 17), (1000063, 63)] rfl ?_); simp only [go_sem, Int.reduceEq, Int.reduceNe, Int.reduceLT, Int.reduceLE, Nat.reduceEqDiff, Nat.reduceAdd, Nat.reduceMul, Nat.reduceLT, Nat.reduceLeDiff, Nat.reduceSub, reduceCtorEq, reduceIte, Int.reduceToNat, beq_self_eq_true, Bool.and_self, u8_solid, List.length_append, List.map_append]; refine ⟨_, _, hfl1, ?_⟩; try simp only [go_sem, Int.reduceEq, Int.reduceNe, Int.reduceLT, Int.reduceLE, Nat.reduceEqDiff, Nat.reduceAdd, Nat.reduceMul, Nat.reduceLT, Nat.reduceLeDiff, Nat.reduceSub, reduceCtorEq, reduceIte, Int.reduceToNat, beq_self_eq_true, Bool.and_self, u8_solid, List.length_append, List.map_append]
          refine hNu _ (VWp.keep [2,7,8,9,11,21,22,23] [2,7,8,17] ?_); simp only [go_sem, Int.reduceEq, Int.reduceNe, Int.reduceLT, Int.reduceLE, Nat.reduceEqDiff, Nat.reduceAdd, Nat.reduceMul, Nat.reduceLT, Nat.reduceLeDiff, Nat.reduceSub, reduceCtorEq, reduceIte, Int.reduceToNat, beq_self_eq_true, Bool.and_self, u8_solid, List.length_append, List.map_append]
          have hs11 : (outs ++ [r1], curF false (some (l[k]))) = stepT d (outs, curF false (some r1)) l[k] := by
            unfold stepT; simp only []; rw [if_pos (by rw [hcond])]; simp [flushT, putT, curF, hd, hne r1 rfl]
          refine vwp_seq_k fun Nw hNw => ?_
          refine vwp_seq_k fun Nx hNx => vreg tt_ok hF rfl ?_; simp only [go_sem, Int.reduceEq, Int.reduceNe, Int.reduceLT, Int.reduceLE, Nat.reduceEqDiff, Nat.reduceAdd, Nat.reduceMul, Nat.reduceLT, Nat.reduceLeDiff, Nat.reduceSub, reduceCtorEq, reduceIte, Int.reduceToNat, beq_self_eq_true, Bool.and_self, u8_solid, List.length_append, List.map_append]
          refine hNx _ (VWp.keep [2,7,8,9,11,21,22,23,50] [2,7,8,17] ?_); simp only [go_sem, Int.reduceEq, Int.reduceNe, Int.reduceLT, Int.reduceLE, Nat.reduceEqDiff, Nat.reduceAdd, Nat.reduceMul, Nat.reduceLT, Nat.reduceLeDiff, Nat.reduceSub, reduceCtorEq, reduceIte, Int.reduceToNat, beq_self_eq_true, Bool.and_self, u8_solid, List.length_append, List.map_append]
          refine vif rfl ⟨(fun ht2 => absurd (of_decide_eq_true ht2) hd), fun hf2 => ?_⟩
          refine vwp_skip (hNw _ ?_)
          refine vreg tt_ok hF rfl ?_; simp only [go_sem, Int.reduceEq, Int.reduceNe, Int.reduceLT, Int.reduceLE, Nat.reduceEqDiff, Nat.reduceAdd, Nat.reduceMul, Nat.reduceLT, Nat.reduceLeDiff, Nat.reduceSub, reduceCtorEq, reduceIte, Int.reduceToNat, beq_self_eq_true, Bool.and_self, u8_solid, List.length_append, List.map_append]
          refine ⟨by omega, ?_⟩
          refine hNp _ (VWp.keep [2,7,8,9,21,22,23] [2,7,8,17,63] ?_); simp only [go_sem, Int.reduceEq, Int.reduceNe, Int.reduceLT, Int.reduceLE, Nat.reduceEqDiff, Nat.reduceAdd, Nat.reduceMul, Nat.reduceLT, Nat.reduceLeDiff, Nat.reduceSub, reduceCtorEq, reduceIte, Int.reduceToNat, beq_self_eq_true, Bool.and_self, u8_solid, List.length_append, List.map_append]
          refine vreg tt_ok hF rfl ?_; simp only [go_sem, Int.reduceEq, Int.reduceNe, Int.reduceLT, Int.reduceLE, Nat.reduceEqDiff, Nat.reduceAdd, Nat.reduceMul, Nat.reduceLT, Nat.reduceLeDiff, Nat.reduceSub, reduceCtorEq, reduceIte, Int.reduceToNat, beq_self_eq_true, Bool.and_self, u8_solid, List.length_append, List.map_append]
          rw [wrap_i64 (by omega) (by omega)]
          refine ⟨⟨k + 1, outs ++ [r1], some (l[k])⟩, step_next hlt hk hft hfit rfl (by rw [← heq]; exact hs11) (by first | exact ne_of_fit h hfit | simp [ne_of_fit h hfit]) (by first | omega | (simp; omega)) (by first | omega | (simp; omega)), by show l.length - (k + 1) < l.length - k; omega, ?_⟩
          simp only [bkT, bkO, go_sem, Int.reduceEq, Int.reduceNe, Int.reduceLT, Int.reduceLE, Nat.reduceEqDiff, Nat.reduceAdd, Nat.reduceMul, Nat.reduceLT, Nat.reduceLeDiff, Nat.reduceSub, reduceCtorEq, reduceIte, Int.reduceToNat, beq_self_eq_true, Bool.and_self, u8_solid, List.length_append, List.map_append]
          simp [blkR, u8V]
        · have hnb : (!d.bl) = false := by rw [hb]; rfl
          refine vwp_seq_k fun Nv hNv => vregd tt_ok mixed hF rfl (by kernel_rfl) (by kernel_rfl) ?_; simp only [go_sem, Int.reduceEq, Int.reduceNe, Int.reduceLT, Int.reduceLE, Nat.reduceEqDiff, Nat.reduceAdd, Nat.reduceMul, Nat.reduceLT, Nat.reduceLeDiff, Nat.reduceSub, reduceCtorEq, reduceIte, Int.reduceToNat, beq_self_eq_true, Bool.and_self, u8_solid, List.length_append, List.map_append]
          simp only [hnb, go_sem, Int.reduceEq, Int.reduceNe, Int.reduceLT, Int.reduceLE, Nat.reduceEqDiff, Nat.reduceAdd, Nat.reduceMul, Nat.reduceLT, Nat.reduceLeDiff, Nat.reduceSub, reduceCtorEq, reduceIte, Int.reduceToNat, beq_self_eq_true, Bool.and_self, u8_solid, List.length_append, List.map_append]
          refine .inl ⟨_, hlen, ?_⟩; try simp only [go_sem, Int.reduceEq, Int.reduceNe, Int.reduceLT, Int.reduceLE, Nat.reduceEqDiff, Nat.reduceAdd, Nat.reduceMul, Nat.reduceLT, Nat.reduceLeDiff, Nat.reduceSub, reduceCtorEq, reduceIte, Int.reduceToNat, beq_self_eq_true, Bool.and_self, u8_solid, List.length_append, List.map_append]
          try simp only [hnb, go_sem, Int.reduceEq, Int.reduceNe, Int.reduceLT, Int.reduceLE, Nat.reduceEqDiff, Nat.reduceAdd, Nat.reduceMul, Nat.reduceLT, Nat.reduceLeDiff, Nat.reduceSub, reduceCtorEq, reduceIte, Int.reduceToNat, beq_self_eq_true, Bool.and_self, u8_solid, List.length_append, List.map_append]
          rw [wrap_i64 (by omega) (by omega)]
          refine hNv _ (VWp.keep [2,7,8,9,11,21,22,23,45] [2,7,8,17,63] ?_); simp only [go_sem, Int.reduceEq, Int.reduceNe, Int.reduceLT, Int.reduceLE, Nat.reduceEqDiff, Nat.reduceAdd, Nat.reduceMul, Nat.reduceLT, Nat.reduceLeDiff, Nat.reduceSub, reduceCtorEq, reduceIte, Int.reduceToNat, beq_self_eq_true, Bool.and_self, u8_solid, List.length_append, List.map_append]
          have hcl : ((curF false (some r1)).length : Int) + (lenT d l[k] : Int) = ((r1.length : Nat) : Int) + ((l[k].length : Nat) : Int) := by rw [hll]; first | (simp [curF]; done) | (simp [curF]; omega)
          refine vif rfl ⟨fun ht => ?_, fun hf => ?_⟩
          · have hcond : (!d.bl || decide (d.blk < ((curF false (some r1)).length + lenT d l[k] : Nat))) = true := by rw [hb, Int.natCast_add, hcl, ht]; rfl
            refine vreg tt_ok hF rfl ?_; simp only [go_sem, Int.reduceEq, Int.reduceNe, Int.reduceLT, Int.reduceLE, Nat.reduceEqDiff, Nat.reduceAdd, Nat.reduceMul, Nat.reduceLT, Nat.reduceLeDiff, Nat.reduceSub, reduceCtorEq, reduceIte, Int.reduceToNat, beq_self_eq_true, Bool.and_self, u8_solid, List.length_append, List.map_append]
            refine .inr (bxo [(1000000, 8), (1000001, 2), (1000002, 7), (1000004, 17), (1000063, 63)] rfl ?_); simp only [go_sem, Int.reduceEq, Int.reduceNe, Int.reduceLT, Int.reduceLE, Nat.reduceEqDiff, Nat.reduceAdd, Nat.reduceMul, Nat.reduceLT, Nat.reduceLeDiff, Nat.reduceSub, reduceCtorEq, reduceIte, Int.reduceToNat, beq_self_eq_true, Bool.and_self, u8_solid, List.length_append, List.map_append]; refine ⟨_, _, hfl1, ?_⟩; try simp only [go_sem, Int.reduceEq, Int.reduceNe, Int.reduceLT, Int.reduceLE, Nat.reduceEqDiff, Nat.reduceAdd, Nat.reduceMul, Nat.reduceLT, Nat.reduceLeDiff, Nat.reduceSub, reduceCtorEq, reduceIte, Int.reduceToNat, beq_self_eq_true, Bool.and_self, u8_solid, List.length_append, List.map_append]
            refine hNu _ (VWp.keep [2,7,8,9,11,21,22,23] [2,7,8,17] ?_); simp only [go_sem, Int.reduceEq, Int.reduceNe, Int.reduceLT, Int.reduceLE, Nat.reduceEqDiff, Nat.reduceAdd, Nat.reduceMul, Nat.reduceLT, Nat.reduceLeDiff, Nat.reduceSub, reduceCtorEq, reduceIte, Int.reduceToNat, beq_self_eq_true, Bool.and_self, u8_solid, List.length_append, List.map_append]
            have hs11 : (outs ++ [r1], curF false (some (l[k]))) = stepT d (outs, curF false (some r1)) l[k] := by
              unfold stepT; simp only []; rw [if_pos (by rw [hcond])]; simp [flushT, putT, curF, hd, hne r1 rfl]
            refine vwp_seq_k fun Nw hNw => ?_
            refine vwp_seq_k fun Nx hNx => vreg tt_ok hF rfl ?_; simp only [go_sem, Int.reduceEq, Int.reduceNe, Int.reduceLT, Int.reduceLE, Nat.reduceEqDiff, Nat.reduceAdd, Nat.reduceMul, Nat.reduceLT, Nat.reduceLeDiff, Nat.reduceSub, reduceCtorEq, reduceIte, Int.reduceToNat, beq_self_eq_true, Bool.and_self, u8_solid, List.length_append, List.map_append]
            refine hNx _ (VWp.keep [2,7,8,9,11,21,22,23,50] [2,7,8,17] ?_); simp only [go_sem, Int.reduceEq, Int.reduceNe, Int.reduceLT, Int.reduceLE, Nat.reduceEqDiff, Nat.reduceAdd, Nat.reduceMul, Nat.reduceLT, Nat.reduceLeDiff, Nat.reduceSub, reduceCtorEq, reduceIte, Int.reduceToNat, beq_self_eq_true, Bool.and_self, u8_solid, List.length_append, List.map_append]
            refine vif rfl ⟨(fun ht2 => absurd (of_decide_eq_true ht2) hd), fun hf2 => ?_⟩
            refine vwp_skip (hNw _ ?_)
            refine vreg tt_ok hF rfl ?_; simp only [go_sem, Int.reduceEq, Int.reduceNe, Int.reduceLT, Int.reduceLE, Nat.reduceEqDiff, Nat.reduceAdd, Nat.reduceMul, Nat.reduceLT, Nat.reduceLeDiff, Nat.reduceSub, reduceCtorEq, reduceIte, Int.reduceToNat, beq_self_eq_true, Bool.and_self, u8_solid, List.length_append, List.map_append]
            refine ⟨by omega, ?_⟩
            refine hNp _ (VWp.keep [2,7,8,9,21,22,23] [2,7,8,17,63] ?_); simp only [go_sem, Int.reduceEq, Int.reduceNe, Int.reduceLT, Int.reduceLE, Nat.reduceEqDiff, Nat.reduceAdd, Nat.reduceMul, Nat.reduceLT, Nat.reduceLeDiff, Nat.reduceSub, reduceCtorEq, reduceIte, Int.reduceToNat, beq_self_eq_true, Bool.and_self, u8_solid, List.length_append, List.map_append]
            refine vreg tt_ok hF rfl ?_; simp only [go_sem, Int.reduceEq, Int.reduceNe, Int.reduceLT, Int.reduceLE, Nat.reduceEqDiff, Nat.reduceAdd, Nat.reduceMul, Nat.reduceLT, Nat.reduceLeDiff, Nat.reduceSub, reduceCtorEq, reduceIte, Int.reduceToNat, beq_self_eq_true, Bool.and_self, u8_solid, List.length_append, List.map_append]
            rw [wrap_i64 (by omega) (by omega)]
            refine ⟨⟨k + 1, outs ++ [r1], some (l[k])⟩, step_next hlt hk hft hfit rfl (by rw [← heq]; exact hs11) (by first | exact ne_of_fit h hfit | simp [ne_of_fit h hfit]) (by first | omega | (simp; omega)) (by first | omega | (simp; omega)), by show l.length - (k + 1) < l.length - k; omega, ?_⟩
            simp only [bkT, bkO, go_sem, Int.reduceEq, Int.reduceNe, Int.reduceLT, Int.reduceLE, Nat.reduceEqDiff, Nat.reduceAdd, Nat.reduceMul, Nat.reduceLT, Nat.reduceLeDiff, Nat.reduceSub, reduceCtorEq, reduceIte, Int.reduceToNat, beq_self_eq_true, Bool.and_self, u8_solid, List.length_append, List.map_append]
            simp [blkR, u8V]
          · have hcond : (!d.bl || decide (d.blk < ((curF false (some r1)).length + lenT d l[k] : Nat))) = false := by rw [hb, Int.natCast_add, hcl, hf]; rfl
            have hle := of_decide_eq_false hf
            refine vwp_skip (hNu _ ?_)
            have hs10 : (outs, curF false (some (r1 ++ l[k]))) = stepT d (outs, curF false (some r1)) l[k] := by
              unfold stepT; simp only []; rw [if_neg (by rw [hcond]; simp)]; simp [putT, curF, hd]
            refine vwp_seq_k fun Nw hNw => ?_
            refine vwp_seq_k fun Nx hNx => vreg tt_ok hF rfl ?_; simp only [go_sem, Int.reduceEq, Int.reduceNe, Int.reduceLT, Int.reduceLE, Nat.reduceEqDiff, Nat.reduceAdd, Nat.reduceMul, Nat.reduceLT, Nat.reduceLeDiff, Nat.reduceSub, reduceCtorEq, reduceIte, Int.reduceToNat, beq_self_eq_true, Bool.and_self, u8_solid, List.length_append, List.map_append]
            refine hNx _ (VWp.keep [2,7,8,9,11,21,22,23,50] [2,7,8,17,63] ?_); simp only [go_sem, Int.reduceEq, Int.reduceNe, Int.reduceLT, Int.reduceLE, Nat.reduceEqDiff, Nat.reduceAdd, Nat.reduceMul, Nat.reduceLT, Nat.reduceLeDiff, Nat.reduceSub, reduceCtorEq, reduceIte, Int.reduceToNat, beq_self_eq_true, Bool.and_self, u8_solid, List.length_append, List.map_append]
            refine vif rfl ⟨(fun ht2 => absurd (of_decide_eq_true ht2) hd), fun hf2 => ?_⟩
            refine vwp_skip (hNw _ ?_)
            refine vreg tt_ok hF rfl ?_; simp only [go_sem, Int.reduceEq, Int.reduceNe, Int.reduceLT, Int.reduceLE, Nat.reduceEqDiff, Nat.reduceAdd, Nat.reduceMul, Nat.reduceLT, Nat.reduceLeDiff, Nat.reduceSub, reduceCtorEq, reduceIte, Int.reduceToNat, beq_self_eq_true, Bool.and_self, u8_solid, List.length_append, List.map_append]
            refine ⟨by omega, ?_⟩
            refine hNp _ (VWp.keep [2,7,8,9,21,22,23] [2,7,8,17,63] ?_); simp only [go_sem, Int.reduceEq, Int.reduceNe, Int.reduceLT, Int.reduceLE, Nat.reduceEqDiff, Nat.reduceAdd, Nat.reduceMul, Nat.reduceLT, Nat.reduceLeDiff, Nat.reduceSub, reduceCtorEq, reduceIte, Int.reduceToNat, beq_self_eq_true, Bool.and_self, u8_solid, List.length_append, List.map_append]
            refine vreg tt_ok hF rfl ?_; simp only [go_sem, Int.reduceEq, Int.reduceNe, Int.reduceLT, Int.reduceLE, Nat.reduceEqDiff, Nat.reduceAdd, Nat.reduceMul, Nat.reduceLT, Nat.reduceLeDiff, Nat.reduceSub, reduceCtorEq, reduceIte, Int.reduceToNat, beq_self_eq_true, Bool.and_self, u8_solid, List.length_append, List.map_append]
            rw [wrap_i64 (by omega) (by omega)]
            refine ⟨⟨k + 1, outs, some (r1 ++ l[k])⟩, step_next hlt hk hft hfit rfl (by rw [← heq]; exact hs10) (by first | exact ne_of_fit h hfit | simp [ne_of_fit h hfit]) (by first | omega | (simp; omega)) (by first | omega | (simp; omega)), by show l.length - (k + 1) < l.length - k; omega, ?_⟩
            simp only [bkT, bkO, go_sem, Int.reduceEq, Int.reduceNe, Int.reduceLT, Int.reduceLE, Nat.reduceEqDiff, Nat.reduceAdd, Nat.reduceMul, Nat.reduceLT, Nat.reduceLeDiff, Nat.reduceSub, reduceCtorEq, reduceIte, Int.reduceToNat, beq_self_eq_true, Bool.and_self, u8_solid, List.length_append, List.map_append]
            simp [blkR, u8V]
    · have hkl : k = l.length := by have := of_decide_eq_false hf; omega
      refine vwp_exit ?_
      simp only [go_sem, Int.reduceEq, Int.reduceNe, Int.reduceLT, Int.reduceLE, Nat.reduceEqDiff, Nat.reduceAdd, Nat.reduceMul, Nat.reduceLT, Nat.reduceLeDiff, Nat.reduceSub, reduceCtorEq, reduceIte, Int.reduceToNat, beq_self_eq_true, Bool.and_self, u8_solid, List.length_append, List.map_append]
      refine hNl _ (VWp.keepR [7,9] [2,7,8,17,63] tt_ok hF rfl fun Naa hNaa => ?_); simp only [go_sem, Int.reduceEq, Int.reduceNe, Int.reduceLT, Int.reduceLE, Nat.reduceEqDiff, Nat.reduceAdd, Nat.reduceMul, Nat.reduceLT, Nat.reduceLeDiff, Nat.reduceSub, reduceCtorEq, reduceIte, Int.reduceToNat, beq_self_eq_true, Bool.and_self, u8_solid, List.length_append, List.map_append]
      refine .inr (bxo [(1000000, 8), (1000001, 2), (1000002, 7), (1000004, 17), (1000063, 63)] rfl ?_); simp only [go_sem, Int.reduceEq, Int.reduceNe, Int.reduceLT, Int.reduceLE, Nat.reduceEqDiff, Nat.reduceAdd, Nat.reduceMul, Nat.reduceLT, Nat.reduceLeDiff, Nat.reduceSub, reduceCtorEq, reduceIte, Int.reduceToNat, beq_self_eq_true, Bool.and_self, u8_solid, List.length_append, List.map_append]; refine ⟨_, _, hfl1, ?_⟩; try simp only [go_sem, Int.reduceEq, Int.reduceNe, Int.reduceLT, Int.reduceLE, Nat.reduceEqDiff, Nat.reduceAdd, Nat.reduceMul, Nat.reduceLT, Nat.reduceLeDiff, Nat.reduceSub, reduceCtorEq, reduceIte, Int.reduceToNat, beq_self_eq_true, Bool.and_self, u8_solid, List.length_append, List.map_append]
      refine hNaa _ (VWp.keepR [7] [7,17] tt_ok hF rfl fun Nab hNab => ?_); simp only [go_sem, Int.reduceEq, Int.reduceNe, Int.reduceLT, Int.reduceLE, Nat.reduceEqDiff, Nat.reduceAdd, Nat.reduceMul, Nat.reduceLT, Nat.reduceLeDiff, Nat.reduceSub, reduceCtorEq, reduceIte, Int.reduceToNat, beq_self_eq_true, Bool.and_self, u8_solid, List.length_append, List.map_append]
      refine hNab _ (VWp.keep [4,5] [17] ?_); simp only [go_sem, Int.reduceEq, Int.reduceNe, Int.reduceLT, Int.reduceLE, Nat.reduceEqDiff, Nat.reduceAdd, Nat.reduceMul, Nat.reduceLT, Nat.reduceLeDiff, Nat.reduceSub, reduceCtorEq, reduceIte, Int.reduceToNat, beq_self_eq_true, Bool.and_self, u8_solid, List.length_append, List.map_append]
      refine vwp_ret ?_
      simp only [go_sem, Int.reduceEq, Int.reduceNe, Int.reduceLT, Int.reduceLE, Nat.reduceEqDiff, Nat.reduceAdd, Nat.reduceMul, Nat.reduceLT, Nat.reduceLeDiff, Nat.reduceSub, reduceCtorEq, reduceIte, Int.reduceToNat, beq_self_eq_true, Bool.and_self, u8_solid, List.length_append, List.map_append]
      rw [blkE_ok h hl (fun r hr => by obtain ⟨j, hj, rfl⟩ := List.getElem_of_mem hr; have := hft j (by omega); rwa [List.getD_eq_getElem?_getD, List.getElem?_eq_getElem hj] at this), blkT]
      rw [hkl, List.take_length] at heq
      rw [← heq]
      exact LeV.of_eq (by simp [flushT, curF, blkR, u8V, hd, hne r1 rfl])
set_option maxHeartbeats 16000000 in
set_option maxRecDepth 4000 in
theorem Block_var (d : DcbT) (h : chkT d = true) (hd : d.fmt = 2) (l : List Tb) (hl : l.length ≤ 4096) :
    Spec Tryz.prog 41 [dcbV d, .sl 1 (l.map blkR)] (.tup [.sl 1 ((blkE d l).1.map blkR), .int .i64 (blkE d l).2]) := by
  obtain ⟨o1, o2, b1, b2, _, _⟩ := chk_parts h
  have hchk := Check_spec d
  have e0 : chkE d = 0 := by unfold chkE; rw [if_pos h]
  rw [e0] at hchk
  unfold dcbV at hchk ⊢
  simp only [dcbC] at hchk ⊢
  refine spec_of tt_ok Tryz.func41 rfl (by decide) Tryz.ntmps41 (congrArg Array.toList Tryz.results41) (by simp) (by decide) rfl rfl (fun F hF => ?_)
  refine vwp_seq_k fun Na hNa => vreg tt_ok hF rfl ?_; simp only [go_sem, Int.reduceEq, Int.reduceNe, Int.reduceLT, Int.reduceLE, Nat.reduceEqDiff, Nat.reduceAdd, Nat.reduceMul, Nat.reduceLT, Nat.reduceLeDiff, Nat.reduceSub, reduceCtorEq, reduceIte, Int.reduceToNat, beq_self_eq_true, Bool.and_self, u8_solid, List.length_append, List.map_append]
  refine hNa _ (VWp.keep [1,2] [2] ?_); simp only [go_sem, Int.reduceEq, Int.reduceNe, Int.reduceLT, Int.reduceLE, Nat.reduceEqDiff, Nat.reduceAdd, Nat.reduceMul, Nat.reduceLT, Nat.reduceLeDiff, Nat.reduceSub, reduceCtorEq, reduceIte, Int.reduceToNat, beq_self_eq_true, Bool.and_self, u8_solid, List.length_append, List.map_append]
  refine vwp_seq_k fun Nb hNb => ?_
  refine vwp_seq_k fun Nc hNc => vreg tt_ok hF rfl ?_; simp only [go_sem, Int.reduceEq, Int.reduceNe, Int.reduceLT, Int.reduceLE, Nat.reduceEqDiff, Nat.reduceAdd, Nat.reduceMul, Nat.reduceLT, Nat.reduceLeDiff, Nat.reduceSub, reduceCtorEq, reduceIte, Int.reduceToNat, beq_self_eq_true, Bool.and_self, u8_solid, List.length_append, List.map_append]
  refine .inl ⟨_, hchk, ?_⟩; try simp only [go_sem, Int.reduceEq, Int.reduceNe, Int.reduceLT, Int.reduceLE, Nat.reduceEqDiff, Nat.reduceAdd, Nat.reduceMul, Nat.reduceLT, Nat.reduceLeDiff, Nat.reduceSub, reduceCtorEq, reduceIte, Int.reduceToNat, beq_self_eq_true, Bool.and_self, u8_solid, List.length_append, List.map_append]
  refine hNc _ (VWp.keepR [1,2,6] [2] tt_ok hF rfl fun Nd hNd => ?_); simp only [go_sem, Int.reduceEq, Int.reduceNe, Int.reduceLT, Int.reduceLE, Nat.reduceEqDiff, Nat.reduceAdd, Nat.reduceMul, Nat.reduceLT, Nat.reduceLeDiff, Nat.reduceSub, reduceCtorEq, reduceIte, Int.reduceToNat, beq_self_eq_true, Bool.and_self, u8_solid, List.length_append, List.map_append]
  refine hNd _ (VWp.keep [1,2,6,15] [2] ?_); simp only [go_sem, Int.reduceEq, Int.reduceNe, Int.reduceLT, Int.reduceLE, Nat.reduceEqDiff, Nat.reduceAdd, Nat.reduceMul, Nat.reduceLT, Nat.reduceLeDiff, Nat.reduceSub, reduceCtorEq, reduceIte, Int.reduceToNat, beq_self_eq_true, Bool.and_self, u8_solid, List.length_append, List.map_append]
  refine vif rfl ⟨(fun ht => by cases ht), fun hf => ?_⟩
  refine vwp_skip (hNb _ ?_)
  refine vwp_seq_k fun Nf hNf => ?_
  refine vwp_seq_k fun Ng hNg => vreg tt_ok hF rfl ?_; simp only [go_sem, Int.reduceEq, Int.reduceNe, Int.reduceLT, Int.reduceLE, Nat.reduceEqDiff, Nat.reduceAdd, Nat.reduceMul, Nat.reduceLT, Nat.reduceLeDiff, Nat.reduceSub, reduceCtorEq, reduceIte, Int.reduceToNat, beq_self_eq_true, Bool.and_self, u8_solid, List.length_append, List.map_append]
  refine hNg _ (VWp.keep [1,2,19] [2] ?_); simp only [go_sem, Int.reduceEq, Int.reduceNe, Int.reduceLT, Int.reduceLE, Nat.reduceEqDiff, Nat.reduceAdd, Nat.reduceMul, Nat.reduceLT, Nat.reduceLeDiff, Nat.reduceSub, reduceCtorEq, reduceIte, Int.reduceToNat, beq_self_eq_true, Bool.and_self, u8_solid, List.length_append, List.map_append]
  refine vif rfl ⟨(fun ht => absurd (of_decide_eq_true ht) (by omega)), fun hf => ?_⟩
  refine vwp_skip (hNf _ ?_)
  refine vwp_seq_k fun Ni hNi => vreg tt_ok hF rfl ?_; simp only [go_sem, Int.reduceEq, Int.reduceNe, Int.reduceLT, Int.reduceLE, Nat.reduceEqDiff, Nat.reduceAdd, Nat.reduceMul, Nat.reduceLT, Nat.reduceLeDiff, Nat.reduceSub, reduceCtorEq, reduceIte, Int.reduceToNat, beq_self_eq_true, Bool.and_self, u8_solid, List.length_append, List.map_append]
  refine hNi _ (VWp.keepR [1,2,7] [2,7] tt_ok hF rfl fun Nj hNj => ?_); simp only [go_sem, Int.reduceEq, Int.reduceNe, Int.reduceLT, Int.reduceLE, Nat.reduceEqDiff, Nat.reduceAdd, Nat.reduceMul, Nat.reduceLT, Nat.reduceLeDiff, Nat.reduceSub, reduceCtorEq, reduceIte, Int.reduceToNat, beq_self_eq_true, Bool.and_self, u8_solid, List.length_append, List.map_append]
  refine hNj _ (VWp.keep [1,2,7,8] [2,7,8] ?_); simp only [go_sem, Int.reduceEq, Int.reduceNe, Int.reduceLT, Int.reduceLE, Nat.reduceEqDiff, Nat.reduceAdd, Nat.reduceMul, Nat.reduceLT, Nat.reduceLeDiff, Nat.reduceSub, reduceCtorEq, reduceIte, Int.reduceToNat, beq_self_eq_true, Bool.and_self, u8_solid, List.length_append, List.map_append]
  refine VWp.adoptB 17 1 45 (o := 7) (i := 0) (T := 42) (cs := [.nil]) rfl rfl rfl (by decide) ?_
  simp only [go_sem, Int.reduceEq, Int.reduceNe, Int.reduceLT, Int.reduceLE, Nat.reduceEqDiff, Nat.reduceAdd, Nat.reduceMul, Nat.reduceLT, Nat.reduceLeDiff, Nat.reduceSub, reduceCtorEq, reduceIte, Int.reduceToNat, beq_self_eq_true, Bool.and_self, u8_solid, List.length_append, List.map_append]
  refine vwp_seq_k fun Nk hNk => vreg tt_ok hF rfl ?_; simp only [go_sem, Int.reduceEq, Int.reduceNe, Int.reduceLT, Int.reduceLE, Nat.reduceEqDiff, Nat.reduceAdd, Nat.reduceMul, Nat.reduceLT, Nat.reduceLeDiff, Nat.reduceSub, reduceCtorEq, reduceIte, Int.reduceToNat, beq_self_eq_true, Bool.and_self, u8_solid, List.length_append, List.map_append]
  refine hNk _ (VWp.keep [1,2,7,8,9] [2,7,8,17] ?_); simp only [go_sem, Int.reduceEq, Int.reduceNe, Int.reduceLT, Int.reduceLE, Nat.reduceEqDiff, Nat.reduceAdd, Nat.reduceMul, Nat.reduceLT, Nat.reduceLeDiff, Nat.reduceSub, reduceCtorEq, reduceIte, Int.reduceToNat, beq_self_eq_true, Bool.and_self, u8_solid, List.length_append, List.map_append]
  refine vwp_seq_k fun Nl hNl => ?_
  refine vwp_seq_k fun Nm hNm => vreg tt_ok hF rfl ?_; simp only [go_sem, Int.reduceEq, Int.reduceNe, Int.reduceLT, Int.reduceLE, Nat.reduceEqDiff, Nat.reduceAdd, Nat.reduceMul, Nat.reduceLT, Nat.reduceLeDiff, Nat.reduceSub, reduceCtorEq, reduceIte, Int.reduceToNat, beq_self_eq_true, Bool.and_self, u8_solid, List.length_append, List.map_append]
  refine hNm _ (VWp.keep [2,7,8,9,21,22,23] [2,7,8,17] ?_); simp only [go_sem, Int.reduceEq, Int.reduceNe, Int.reduceLT, Int.reduceLE, Nat.reduceEqDiff, Nat.reduceAdd, Nat.reduceMul, Nat.reduceLT, Nat.reduceLeDiff, Nat.reduceSub, reduceCtorEq, reduceIte, Int.reduceToNat, beq_self_eq_true, Bool.and_self, u8_solid, List.length_append, List.map_append]
  refine vwp_block (vloop (bkT l) (bkO 54 true d) (BkI d l true) (fun x => l.length - x.k) ⟨0, [], none⟩ ⟨by simp, rfl, (fun r q => by cases q), (fun r q => by cases q), by simp, (fun j hj => absurd hj (by simp))⟩ (by simp only [bkT, bkO, dcbC, go_sem, Int.reduceEq, Int.reduceNe, Int.reduceLT, Int.reduceLE, Nat.reduceEqDiff, Nat.reduceAdd, Nat.reduceMul, Nat.reduceLT, Nat.reduceLeDiff, Nat.reduceSub, reduceCtorEq, reduceIte, Int.reduceToNat, beq_self_eq_true, Bool.and_self, u8_solid, List.length_append, List.map_append]) ?_)
  rintro ⟨k, outs, cur⟩ ⟨hk, heq, hne, hln, hol, hft⟩
  simp only at hk heq hne hln hol hft
  cases cur with
  | none =>
    simp only [bkT, bkO]
    have hfl0 := flush_nil d outs
    simp only [flN, dcbC, dcbV] at hfl0 ⊢
    refine vwp_seq_k fun Nn hNn => vreg tt_ok hF rfl ?_; simp only [go_sem, Int.reduceEq, Int.reduceNe, Int.reduceLT, Int.reduceLE, Nat.reduceEqDiff, Nat.reduceAdd, Nat.reduceMul, Nat.reduceLT, Nat.reduceLeDiff, Nat.reduceSub, reduceCtorEq, reduceIte, Int.reduceToNat, beq_self_eq_true, Bool.and_self, u8_solid, List.length_append, List.map_append]
    refine hNn _ (VWp.keep [2,7,8,9,21,22,23,24] [2,7,8,17] ?_); simp only [go_sem, Int.reduceEq, Int.reduceNe, Int.reduceLT, Int.reduceLE, Nat.reduceEqDiff, Nat.reduceAdd, Nat.reduceMul, Nat.reduceLT, Nat.reduceLeDiff, Nat.reduceSub, reduceCtorEq, reduceIte, Int.reduceToNat, beq_self_eq_true, Bool.and_self, u8_solid, List.length_append, List.map_append]
    refine vwp_seq_k fun No hNo => ?_
    refine vif rfl ⟨fun ht => ?_, fun hf => ?_⟩
    · have hlt : k < l.length := by have := of_decide_eq_true ht; omega
      have hget : (l.map blkR).getD k [] = [V.sl 1 (l[k].map u8c)] := by simp [List.getD_eq_getElem?_getD, List.getElem?_eq_getElem hlt, blkR, u8V]
      have hfits := fits_spec d h (l[k].length : Int)
      have hmem := List.getElem_mem hlt
      simp only [dcbV, dcbC] at hfits
      refine vwp_skip (hNo _ ?_)
      refine vwp_seq_k fun Np hNp => ?_
      refine vwp_block ?_
      refine vwp_seq_k fun Nq hNq => vreg tt_ok hF rfl ?_; simp only [go_sem, Int.reduceEq, Int.reduceNe, Int.reduceLT, Int.reduceLE, Nat.reduceEqDiff, Nat.reduceAdd, Nat.reduceMul, Nat.reduceLT, Nat.reduceLeDiff, Nat.reduceSub, reduceCtorEq, reduceIte, Int.reduceToNat, beq_self_eq_true, Bool.and_self, u8_solid, List.length_append, List.map_append]
      simp only [hget, List.length_map, go_sem, Int.reduceEq, Int.reduceNe, Int.reduceLT, Int.reduceLE, Nat.reduceEqDiff, Nat.reduceAdd, Nat.reduceMul, Nat.reduceLT, Nat.reduceLeDiff, Nat.reduceSub, reduceCtorEq, reduceIte, Int.reduceToNat, beq_self_eq_true, Bool.and_self, u8_solid, List.length_append, List.map_append]
      refine ⟨⟨by omega, by omega⟩, ?_⟩
      refine hNq _ (VWp.keep [2,7,8,9,11,21,22,23] [2,7,8,17] ?_); simp only [go_sem, Int.reduceEq, Int.reduceNe, Int.reduceLT, Int.reduceLE, Nat.reduceEqDiff, Nat.reduceAdd, Nat.reduceMul, Nat.reduceLT, Nat.reduceLeDiff, Nat.reduceSub, reduceCtorEq, reduceIte, Int.reduceToNat, beq_self_eq_true, Bool.and_self, u8_solid, List.length_append, List.map_append]
      refine vwp_seq_k fun Nr hNr => ?_
      refine vwp_seq_k fun Ns hNs => vreg tt_ok hF rfl ?_; simp only [go_sem, Int.reduceEq, Int.reduceNe, Int.reduceLT, Int.reduceLE, Nat.reduceEqDiff, Nat.reduceAdd, Nat.reduceMul, Nat.reduceLT, Nat.reduceLeDiff, Nat.reduceSub, reduceCtorEq, reduceIte, Int.reduceToNat, beq_self_eq_true, Bool.and_self, u8_solid, List.length_append, List.map_append]
      refine .inl ⟨_, hfits, ?_⟩; try simp only [go_sem, Int.reduceEq, Int.reduceNe, Int.reduceLT, Int.reduceLE, Nat.reduceEqDiff, Nat.reduceAdd, Nat.reduceMul, Nat.reduceLT, Nat.reduceLeDiff, Nat.reduceSub, reduceCtorEq, reduceIte, Int.reduceToNat, beq_self_eq_true, Bool.and_self, u8_solid, List.length_append, List.map_append]
      refine hNs _ (VWp.keep [2,7,8,9,11,21,22,23,31] [2,7,8,17] ?_); simp only [go_sem, Int.reduceEq, Int.reduceNe, Int.reduceLT, Int.reduceLE, Nat.reduceEqDiff, Nat.reduceAdd, Nat.reduceMul, Nat.reduceLT, Nat.reduceLeDiff, Nat.reduceSub, reduceCtorEq, reduceIte, Int.reduceToNat, beq_self_eq_true, Bool.and_self, u8_solid, List.length_append, List.map_append]
      refine vif rfl ⟨fun ht1 => ?_, fun hf1 => ?_⟩
      · refine vwp_seq_k fun Nt hNt => vreg tt_ok hF rfl ?_; simp only [go_sem, Int.reduceEq, Int.reduceNe, Int.reduceLT, Int.reduceLE, Nat.reduceEqDiff, Nat.reduceAdd, Nat.reduceMul, Nat.reduceLT, Nat.reduceLeDiff, Nat.reduceSub, reduceCtorEq, reduceIte, Int.reduceToNat, beq_self_eq_true, Bool.and_self, u8_solid, List.length_append, List.map_append]
        refine hNt _ (VWp.keep [4,5] [] ?_); simp only [go_sem, Int.reduceEq, Int.reduceNe, Int.reduceLT, Int.reduceLE, Nat.reduceEqDiff, Nat.reduceAdd, Nat.reduceMul, Nat.reduceLT, Nat.reduceLeDiff, Nat.reduceSub, reduceCtorEq, reduceIte, Int.reduceToNat, beq_self_eq_true, Bool.and_self, u8_solid, List.length_append, List.map_append]
        refine vwp_ret ?_
        simp only [go_sem, Int.reduceEq, Int.reduceNe, Int.reduceLT, Int.reduceLE, Nat.reduceEqDiff, Nat.reduceAdd, Nat.reduceMul, Nat.reduceLT, Nat.reduceLeDiff, Nat.reduceSub, reduceCtorEq, reduceIte, Int.reduceToNat, beq_self_eq_true, Bool.and_self, u8_solid, List.length_append, List.map_append]
        rw [blkE_bad h hl hmem (by simpa using ht1)]
        exact LeV.tup ⟨LeV.nil _, LeV.refl _, trivial⟩
      · have hfit : fitT d (l[k].length : Int) = true := by simpa using hf1
        have hrl := fit_len h hfit
        have hlen := length_spec d l[k] (by omega)
        have hdes := descriptor_spec (l[k].length + 4) (by omega)
        unfold u8V at hdes
        rw [des_v] at hdes
        have hll : lenT d l[k] = l[k].length + 4 := by unfold lenT; rw [if_pos hd]
        rw [hll] at hlen
        simp only [dcbV, dcbC, u8V] at hlen
        refine vwp_skip (hNr _ ?_)
        refine vwp_seq_k fun Nu hNu => ?_
        have hbc : d.bl = false ∨ d.bl = true := by cases d.bl <;> simp
        rcases hbc with hb | hb
        · have hnb : (!d.bl) = true := by rw [hb]; rfl
          refine vwp_seq_k fun Nv hNv => vregd tt_ok mixed hF rfl (by kernel_rfl) (by kernel_rfl) ?_; simp only [go_sem, Int.reduceEq, Int.reduceNe, Int.reduceLT, Int.reduceLE, Nat.reduceEqDiff, Nat.reduceAdd, Nat.reduceMul, Nat.reduceLT, Nat.reduceLeDiff, Nat.reduceSub, reduceCtorEq, reduceIte, Int.reduceToNat, beq_self_eq_true, Bool.and_self, u8_solid, List.length_append, List.map_append]
          simp only [hnb, go_sem, Int.reduceEq, Int.reduceNe, Int.reduceLT, Int.reduceLE, Nat.reduceEqDiff, Nat.reduceAdd, Nat.reduceMul, Nat.reduceLT, Nat.reduceLeDiff, Nat.reduceSub, reduceCtorEq, reduceIte, Int.reduceToNat, beq_self_eq_true, Bool.and_self, u8_solid, List.length_append, List.map_append]
          refine hNv _ (VWp.keep [2,7,8,9,11,21,22,23,45] [2,7,8,17] ?_); simp only [go_sem, Int.reduceEq, Int.reduceNe, Int.reduceLT, Int.reduceLE, Nat.reduceEqDiff, Nat.reduceAdd, Nat.reduceMul, Nat.reduceLT, Nat.reduceLeDiff, Nat.reduceSub, reduceCtorEq, reduceIte, Int.reduceToNat, beq_self_eq_true, Bool.and_self, u8_solid, List.length_append, List.map_append]
          have hcond : (!d.bl || decide (d.blk < ((curF true none).length + lenT d l[k] : Nat))) = true := by rw [hb]; rfl
          refine vif rfl ⟨fun ht => ?_, (fun hf => by cases hf)⟩
          refine vreg tt_ok hF rfl ?_; simp only [go_sem, Int.reduceEq, Int.reduceNe, Int.reduceLT, Int.reduceLE, Nat.reduceEqDiff, Nat.reduceAdd, Nat.reduceMul, Nat.reduceLT, Nat.reduceLeDiff, Nat.reduceSub, reduceCtorEq, reduceIte, Int.reduceToNat, beq_self_eq_true, Bool.and_self, u8_solid, List.length_append, List.map_append]
          refine .inr (bxo [(1000000, 8), (1000001, 2), (1000002, 7), (1000004, 17)] rfl ?_); simp only [go_sem, Int.reduceEq, Int.reduceNe, Int.reduceLT, Int.reduceLE, Nat.reduceEqDiff, Nat.reduceAdd, Nat.reduceMul, Nat.reduceLT, Nat.reduceLeDiff, Nat.reduceSub, reduceCtorEq, reduceIte, Int.reduceToNat, beq_self_eq_true, Bool.and_self, u8_solid, List.length_append, List.map_append]; refine ⟨_, _, hfl0, ?_⟩; try simp only [go_sem, Int.reduceEq, Int.reduceNe, Int.reduceLT, Int.reduceLE, Nat.reduceEqDiff, Nat.reduceAdd, Nat.reduceMul, Nat.reduceLT, Nat.reduceLeDiff, Nat.reduceSub, reduceCtorEq, reduceIte, Int.reduceToNat, beq_self_eq_true, Bool.and_self, u8_solid, List.length_append, List.map_append]
          refine hNu _ (VWp.keep [2,7,8,9,11,21,22,23] [2,7,8,17] ?_); simp only [go_sem, Int.reduceEq, Int.reduceNe, Int.reduceLT, Int.reduceLE, Nat.reduceEqDiff, Nat.reduceAdd, Nat.reduceMul, Nat.reduceLT, Nat.reduceLeDiff, Nat.reduceSub, reduceCtorEq, reduceIte, Int.reduceToNat, beq_self_eq_true, Bool.and_self, u8_solid, List.length_append, List.map_append]
          have hs01 : (outs, curF true (some (desT (l[k].length + 4) ++ l[k]))) = stepT d (outs, curF true none) l[k] := by
            unfold stepT; simp only []; rw [if_pos (by rw [hcond])]; simp [flushT, putT, curF, hd]
          refine vwp_seq_k fun Nw hNw => ?_
          refine vwp_seq_k fun Nx hNx => vreg tt_ok hF rfl ?_; simp only [go_sem, Int.reduceEq, Int.reduceNe, Int.reduceLT, Int.reduceLE, Nat.reduceEqDiff, Nat.reduceAdd, Nat.reduceMul, Nat.reduceLT, Nat.reduceLeDiff, Nat.reduceSub, reduceCtorEq, reduceIte, Int.reduceToNat, beq_self_eq_true, Bool.and_self, u8_solid, List.length_append, List.map_append]
          refine hNx _ (VWp.keep [2,7,8,9,11,21,22,23,50] [2,7,8,17] ?_); simp only [go_sem, Int.reduceEq, Int.reduceNe, Int.reduceLT, Int.reduceLE, Nat.reduceEqDiff, Nat.reduceAdd, Nat.reduceMul, Nat.reduceLT, Nat.reduceLeDiff, Nat.reduceSub, reduceCtorEq, reduceIte, Int.reduceToNat, beq_self_eq_true, Bool.and_self, u8_solid, List.length_append, List.map_append]
          refine vif rfl ⟨fun ht2 => ?_, (fun hf2 => absurd hd (of_decide_eq_false hf2))⟩
          refine vwp_seq_k fun Ny hNy => ?_
          refine vwp_seq_k fun Nz hNz => vreg tt_ok hF rfl ?_; simp only [go_sem, Int.reduceEq, Int.reduceNe, Int.reduceLT, Int.reduceLE, Nat.reduceEqDiff, Nat.reduceAdd, Nat.reduceMul, Nat.reduceLT, Nat.reduceLeDiff, Nat.reduceSub, reduceCtorEq, reduceIte, Int.reduceToNat, beq_self_eq_true, Bool.and_self, u8_solid, List.length_append, List.map_append]
          refine hNz _ (VWp.keep [2,7,8,9,11,21,22,23,53] [2,7,8,17] ?_); simp only [go_sem, Int.reduceEq, Int.reduceNe, Int.reduceLT, Int.reduceLE, Nat.reduceEqDiff, Nat.reduceAdd, Nat.reduceMul, Nat.reduceLT, Nat.reduceLeDiff, Nat.reduceSub, reduceCtorEq, reduceIte, Int.reduceToNat, beq_self_eq_true, Bool.and_self, u8_solid, List.length_append, List.map_append]
          refine vif rfl ⟨fun ht3 => ?_, (fun hf3 => by cases hf3)⟩
          refine vreg tt_ok hF rfl ?_; simp only [go_sem, Int.reduceEq, Int.reduceNe, Int.reduceLT, Int.reduceLE, Nat.reduceEqDiff, Nat.reduceAdd, Nat.reduceMul, Nat.reduceLT, Nat.reduceLeDiff, Nat.reduceSub, reduceCtorEq, reduceIte, Int.reduceToNat, beq_self_eq_true, Bool.and_self, u8_solid, List.length_append, List.map_append]
          refine hNy _ (VWp.keep [2,7,8,9,11,21,22,23] [2,7,8,17,54] ?_); simp only [go_sem, Int.reduceEq, Int.reduceNe, Int.reduceLT, Int.reduceLE, Nat.reduceEqDiff, Nat.reduceAdd, Nat.reduceMul, Nat.reduceLT, Nat.reduceLeDiff, Nat.reduceSub, reduceCtorEq, reduceIte, Int.reduceToNat, beq_self_eq_true, Bool.and_self, u8_solid, List.length_append, List.map_append]
          refine vregd tt_ok mixed hF rfl (by kernel_rfl) (by kernel_rfl) ?_; simp only [go_sem, Int.reduceEq, Int.reduceNe, Int.reduceLT, Int.reduceLE, Nat.reduceEqDiff, Nat.reduceAdd, Nat.reduceMul, Nat.reduceLT, Nat.reduceLeDiff, Nat.reduceSub, reduceCtorEq, reduceIte, Int.reduceToNat, beq_self_eq_true, Bool.and_self, u8_solid, List.length_append, List.map_append]
          rw [wrap_i64 (by omega) (by omega)]
          refine .inl ⟨_, hdes, ?_⟩; try simp only [go_sem, Int.reduceEq, Int.reduceNe, Int.reduceLT, Int.reduceLE, Nat.reduceEqDiff, Nat.reduceAdd, Nat.reduceMul, Nat.reduceLT, Nat.reduceLeDiff, Nat.reduceSub, reduceCtorEq, reduceIte, Int.reduceToNat, beq_self_eq_true, Bool.and_self, u8_solid, List.length_append, List.map_append]
          refine hNw _ (VWp.keep [2,7,8,9,11,21,22,23] [2,7,8,17,54] ?_); simp only [go_sem, Int.reduceEq, Int.reduceNe, Int.reduceLT, Int.reduceLE, Nat.reduceEqDiff, Nat.reduceAdd, Nat.reduceMul, Nat.reduceLT, Nat.reduceLeDiff, Nat.reduceSub, reduceCtorEq, reduceIte, Int.reduceToNat, beq_self_eq_true, Bool.and_self, u8_solid, List.length_append, List.map_append]
          refine vreg tt_ok hF rfl ?_; simp only [go_sem, Int.reduceEq, Int.reduceNe, Int.reduceLT, Int.reduceLE, Nat.reduceEqDiff, Nat.reduceAdd, Nat.reduceMul, Nat.reduceLT, Nat.reduceLeDiff, Nat.reduceSub, reduceCtorEq, reduceIte, Int.reduceToNat, beq_self_eq_true, Bool.and_self, u8_solid, List.length_append, List.map_append]
          refine ⟨by omega, ?_⟩
          refine hNp _ (VWp.keep [2,7,8,9,21,22,23] [2,7,8,17,54] ?_); simp only [go_sem, Int.reduceEq, Int.reduceNe, Int.reduceLT, Int.reduceLE, Nat.reduceEqDiff, Nat.reduceAdd, Nat.reduceMul, Nat.reduceLT, Nat.reduceLeDiff, Nat.reduceSub, reduceCtorEq, reduceIte, Int.reduceToNat, beq_self_eq_true, Bool.and_self, u8_solid, List.length_append, List.map_append]
          refine vreg tt_ok hF rfl ?_; simp only [go_sem, Int.reduceEq, Int.reduceNe, Int.reduceLT, Int.reduceLE, Nat.reduceEqDiff, Nat.reduceAdd, Nat.reduceMul, Nat.reduceLT, Nat.reduceLeDiff, Nat.reduceSub, reduceCtorEq, reduceIte, Int.reduceToNat, beq_self_eq_true, Bool.and_self, u8_solid, List.length_append, List.map_append]
          rw [wrap_i64 (by omega) (by omega)]
          refine ⟨⟨k + 1, outs, some (desT (l[k].length + 4) ++ l[k])⟩, step_next hlt hk hft hfit rfl (by rw [← heq]; exact hs01) (by simp [desT]) (by simp [desT]; omega) (by first | omega | (simp; omega)), by show l.length - (k + 1) < l.length - k; omega, ?_⟩
          simp only [bkT, bkO, go_sem, Int.reduceEq, Int.reduceNe, Int.reduceLT, Int.reduceLE, Nat.reduceEqDiff, Nat.reduceAdd, Nat.reduceMul, Nat.reduceLT, Nat.reduceLeDiff, Nat.reduceSub, reduceCtorEq, reduceIte, Int.reduceToNat, beq_self_eq_true, Bool.and_self, u8_solid, List.length_append, List.map_append]
          simp [blkR, u8V, des_v, des_len]
          try omega
        · have hnb : (!d.bl) = false := by rw [hb]; rfl
          refine vwp_seq_k fun Nv hNv => vregd tt_ok mixed hF rfl (by kernel_rfl) (by kernel_rfl) ?_; simp only [go_sem, Int.reduceEq, Int.reduceNe, Int.reduceLT, Int.reduceLE, Nat.reduceEqDiff, Nat.reduceAdd, Nat.reduceMul, Nat.reduceLT, Nat.reduceLeDiff, Nat.reduceSub, reduceCtorEq, reduceIte, Int.reduceToNat, beq_self_eq_true, Bool.and_self, u8_solid, List.length_append, List.map_append]
          simp only [hnb, go_sem, Int.reduceEq, Int.reduceNe, Int.reduceLT, Int.reduceLE, Nat.reduceEqDiff, Nat.reduceAdd, Nat.reduceMul, Nat.reduceLT, Nat.reduceLeDiff, Nat.reduceSub, reduceCtorEq, reduceIte, Int.reduceToNat, beq_self_eq_true, Bool.and_self, u8_solid, List.length_append, List.map_append]
          refine .inl ⟨_, hlen, ?_⟩; try simp only [go_sem, Int.reduceEq, Int.reduceNe, Int.reduceLT, Int.reduceLE, Nat.reduceEqDiff, Nat.reduceAdd, Nat.reduceMul, Nat.reduceLT, Nat.reduceLeDiff, Nat.reduceSub, reduceCtorEq, reduceIte, Int.reduceToNat, beq_self_eq_true, Bool.and_self, u8_solid, List.length_append, List.map_append]
          try simp only [hnb, go_sem, Int.reduceEq, Int.reduceNe, Int.reduceLT, Int.reduceLE, Nat.reduceEqDiff, Nat.reduceAdd, Nat.reduceMul, Nat.reduceLT, Nat.reduceLeDiff, Nat.reduceSub, reduceCtorEq, reduceIte, Int.reduceToNat, beq_self_eq_true, Bool.and_self, u8_solid, List.length_append, List.map_append]
          rw [wrap_i64 (by omega) (by omega)]
          refine hNv _ (VWp.keep [2,7,8,9,11,21,22,23,45] [2,7,8,17] ?_); simp only [go_sem, Int.reduceEq, Int.reduceNe, Int.reduceLT, Int.reduceLE, Nat.reduceEqDiff, Nat.reduceAdd, Nat.reduceMul, Nat.reduceLT, Nat.reduceLeDiff, Nat.reduceSub, reduceCtorEq, reduceIte, Int.reduceToNat, beq_self_eq_true, Bool.and_self, u8_solid, List.length_append, List.map_append]
          have hcl : ((curF true none).length : Int) + (lenT d l[k] : Int) = (0 : Int) + ((l[k].length + 4 : Nat) : Int) := by rw [hll]; first | (simp [curF]; done) | (simp [curF]; omega)
          refine vif rfl ⟨fun ht => ?_, fun hf => ?_⟩
          · have hcond : (!d.bl || decide (d.blk < ((curF true none).length + lenT d l[k] : Nat))) = true := by rw [hb, Int.natCast_add, hcl, ht]; rfl
            refine vreg tt_ok hF rfl ?_; simp only [go_sem, Int.reduceEq, Int.reduceNe, Int.reduceLT, Int.reduceLE, Nat.reduceEqDiff, Nat.reduceAdd, Nat.reduceMul, Nat.reduceLT, Nat.reduceLeDiff, Nat.reduceSub, reduceCtorEq, reduceIte, Int.reduceToNat, beq_self_eq_true, Bool.and_self, u8_solid, List.length_append, List.map_append]
            refine .inr (bxo [(1000000, 8), (1000001, 2), (1000002, 7), (1000004, 17)] rfl ?_); simp only [go_sem, Int.reduceEq, Int.reduceNe, Int.reduceLT, Int.reduceLE, Nat.reduceEqDiff, Nat.reduceAdd, Nat.reduceMul, Nat.reduceLT, Nat.reduceLeDiff, Nat.reduceSub, reduceCtorEq, reduceIte, Int.reduceToNat, beq_self_eq_true, Bool.and_self, u8_solid, List.length_append, List.map_append]; refine ⟨_, _, hfl0, ?_⟩; try simp only [go_sem, Int.reduceEq, Int.reduceNe, Int.reduceLT, Int.reduceLE, Nat.reduceEqDiff, Nat.reduceAdd, Nat.reduceMul, Nat.reduceLT, Nat.reduceLeDiff, Nat.reduceSub, reduceCtorEq, reduceIte, Int.reduceToNat, beq_self_eq_true, Bool.and_self, u8_solid, List.length_append, List.map_append]
            refine hNu _ (VWp.keep [2,7,8,9,11,21,22,23] [2,7,8,17] ?_); simp only [go_sem, Int.reduceEq, Int.reduceNe, Int.reduceLT, Int.reduceLE, Nat.reduceEqDiff, Nat.reduceAdd, Nat.reduceMul, Nat.reduceLT, Nat.reduceLeDiff, Nat.reduceSub, reduceCtorEq, reduceIte, Int.reduceToNat, beq_self_eq_true, Bool.and_self, u8_solid, List.length_append, List.map_append]
            have hs01 : (outs, curF true (some (desT (l[k].length + 4) ++ l[k]))) = stepT d (outs, curF true none) l[k] := by
              unfold stepT; simp only []; rw [if_pos (by rw [hcond])]; simp [flushT, putT, curF, hd]
            refine vwp_seq_k fun Nw hNw => ?_
            refine vwp_seq_k fun Nx hNx => vreg tt_ok hF rfl ?_; simp only [go_sem, Int.reduceEq, Int.reduceNe, Int.reduceLT, Int.reduceLE, Nat.reduceEqDiff, Nat.reduceAdd, Nat.reduceMul, Nat.reduceLT, Nat.reduceLeDiff, Nat.reduceSub, reduceCtorEq, reduceIte, Int.reduceToNat, beq_self_eq_true, Bool.and_self, u8_solid, List.length_append, List.map_append]
            refine hNx _ (VWp.keep [2,7,8,9,11,21,22,23,50] [2,7,8,17] ?_); simp only [go_sem, Int.reduceEq, Int.reduceNe, Int.reduceLT, Int.reduceLE, Nat.reduceEqDiff, Nat.reduceAdd, Nat.reduceMul, Nat.reduceLT, Nat.reduceLeDiff, Nat.reduceSub, reduceCtorEq, reduceIte, Int.reduceToNat, beq_self_eq_true, Bool.and_self, u8_solid, List.length_append, List.map_append]
            refine vif rfl ⟨fun ht2 => ?_, (fun hf2 => absurd hd (of_decide_eq_false hf2))⟩
            refine vwp_seq_k fun Ny hNy => ?_
            refine vwp_seq_k fun Nz hNz => vreg tt_ok hF rfl ?_; simp only [go_sem, Int.reduceEq, Int.reduceNe, Int.reduceLT, Int.reduceLE, Nat.reduceEqDiff, Nat.reduceAdd, Nat.reduceMul, Nat.reduceLT, Nat.reduceLeDiff, Nat.reduceSub, reduceCtorEq, reduceIte, Int.reduceToNat, beq_self_eq_true, Bool.and_self, u8_solid, List.length_append, List.map_append]
            refine hNz _ (VWp.keep [2,7,8,9,11,21,22,23,53] [2,7,8,17] ?_); simp only [go_sem, Int.reduceEq, Int.reduceNe, Int.reduceLT, Int.reduceLE, Nat.reduceEqDiff, Nat.reduceAdd, Nat.reduceMul, Nat.reduceLT, Nat.reduceLeDiff, Nat.reduceSub, reduceCtorEq, reduceIte, Int.reduceToNat, beq_self_eq_true, Bool.and_self, u8_solid, List.length_append, List.map_append]
            refine vif rfl ⟨fun ht3 => ?_, (fun hf3 => by cases hf3)⟩
            refine vreg tt_ok hF rfl ?_; simp only [go_sem, Int.reduceEq, Int.reduceNe, Int.reduceLT, Int.reduceLE, Nat.reduceEqDiff, Nat.reduceAdd, Nat.reduceMul, Nat.reduceLT, Nat.reduceLeDiff, Nat.reduceSub, reduceCtorEq, reduceIte, Int.reduceToNat, beq_self_eq_true, Bool.and_self, u8_solid, List.length_append, List.map_append]
            refine hNy _ (VWp.keep [2,7,8,9,11,21,22,23] [2,7,8,17,54] ?_); simp only [go_sem, Int.reduceEq, Int.reduceNe, Int.reduceLT, Int.reduceLE, Nat.reduceEqDiff, Nat.reduceAdd, Nat.reduceMul, Nat.reduceLT, Nat.reduceLeDiff, Nat.reduceSub, reduceCtorEq, reduceIte, Int.reduceToNat, beq_self_eq_true, Bool.and_self, u8_solid, List.length_append, List.map_append]
            refine vregd tt_ok mixed hF rfl (by kernel_rfl) (by kernel_rfl) ?_; simp only [go_sem, Int.reduceEq, Int.reduceNe, Int.reduceLT, Int.reduceLE, Nat.reduceEqDiff, Nat.reduceAdd, Nat.reduceMul, Nat.reduceLT, Nat.reduceLeDiff, Nat.reduceSub, reduceCtorEq, reduceIte, Int.reduceToNat, beq_self_eq_true, Bool.and_self, u8_solid, List.length_append, List.map_append]
            rw [wrap_i64 (by omega) (by omega)]
            refine .inl ⟨_, hdes, ?_⟩; try simp only [go_sem, Int.reduceEq, Int.reduceNe, Int.reduceLT, Int.reduceLE, Nat.reduceEqDiff, Nat.reduceAdd, Nat.reduceMul, Nat.reduceLT, Nat.reduceLeDiff, Nat.reduceSub, reduceCtorEq, reduceIte, Int.reduceToNat, beq_self_eq_true, Bool.and_self, u8_solid, List.length_append, List.map_append]
            refine hNw _ (VWp.keep [2,7,8,9,11,21,22,23] [2,7,8,17,54] ?_); simp only [go_sem, Int.reduceEq, Int.reduceNe, Int.reduceLT, Int.reduceLE, Nat.reduceEqDiff, Nat.reduceAdd, Nat.reduceMul, Nat.reduceLT, Nat.reduceLeDiff, Nat.reduceSub, reduceCtorEq, reduceIte, Int.reduceToNat, beq_self_eq_true, Bool.and_self, u8_solid, List.length_append, List.map_append]
            refine vreg tt_ok hF rfl ?_; simp only [go_sem, Int.reduceEq, Int.reduceNe, Int.reduceLT, Int.reduceLE, Nat.reduceEqDiff, Nat.reduceAdd, Nat.reduceMul, Nat.reduceLT, Nat.reduceLeDiff, Nat.reduceSub, reduceCtorEq, reduceIte, Int.reduceToNat, beq_self_eq_true, Bool.and_self, u8_solid, List.length_append, List.map_append]
            refine ⟨by omega, ?_⟩
            refine hNp _ (VWp.keep [2,7,8,9,21,22,23] [2,7,8,17,54] ?_); simp only [go_sem, Int.reduceEq, Int.reduceNe, Int.reduceLT, Int.reduceLE, Nat.reduceEqDiff, Nat.reduceAdd, Nat.reduceMul, Nat.reduceLT, Nat.reduceLeDiff, Nat.reduceSub, reduceCtorEq, reduceIte, Int.reduceToNat, beq_self_eq_true, Bool.and_self, u8_solid, List.length_append, List.map_append]
            refine vreg tt_ok hF rfl ?_; simp only [go_sem, Int.reduceEq, Int.reduceNe, Int.reduceLT, Int.reduceLE, Nat.reduceEqDiff, Nat.reduceAdd, Nat.reduceMul, Nat.reduceLT, Nat.reduceLeDiff, Nat.reduceSub, reduceCtorEq, reduceIte, Int.reduceToNat, beq_self_eq_true, Bool.and_self, u8_solid, List.length_append, List.map_append]
            rw [wrap_i64 (by omega) (by omega)]
            refine ⟨⟨k + 1, outs, some (desT (l[k].length + 4) ++ l[k])⟩, step_next hlt hk hft hfit rfl (by rw [← heq]; exact hs01) (by simp [desT]) (by simp [desT]; omega) (by first | omega | (simp; omega)), by show l.length - (k + 1) < l.length - k; omega, ?_⟩
            simp only [bkT, bkO, go_sem, Int.reduceEq, Int.reduceNe, Int.reduceLT, Int.reduceLE, Nat.reduceEqDiff, Nat.reduceAdd, Nat.reduceMul, Nat.reduceLT, Nat.reduceLeDiff, Nat.reduceSub, reduceCtorEq, reduceIte, Int.reduceToNat, beq_self_eq_true, Bool.and_self, u8_solid, List.length_append, List.map_append]
            simp [blkR, u8V, des_v, des_len]
            try omega
          · have hcond : (!d.bl || decide (d.blk < ((curF true none).length + lenT d l[k] : Nat))) = false := by rw [hb, Int.natCast_add, hcl, hf]; rfl
            have hle := of_decide_eq_false hf
            refine vwp_skip (hNu _ ?_)
            have hs00 : (outs, curF true (some (desT (l[k].length + 4) ++ l[k]))) = stepT d (outs, curF true none) l[k] := by
              unfold stepT; simp only []; rw [if_neg (by rw [hcond]; simp)]; simp [putT, curF, hd]
            refine vwp_seq_k fun Nw hNw => ?_
            refine vwp_seq_k fun Nx hNx => vreg tt_ok hF rfl ?_; simp only [go_sem, Int.reduceEq, Int.reduceNe, Int.reduceLT, Int.reduceLE, Nat.reduceEqDiff, Nat.reduceAdd, Nat.reduceMul, Nat.reduceLT, Nat.reduceLeDiff, Nat.reduceSub, reduceCtorEq, reduceIte, Int.reduceToNat, beq_self_eq_true, Bool.and_self, u8_solid, List.length_append, List.map_append]
            refine hNx _ (VWp.keep [2,7,8,9,11,21,22,23,50] [2,7,8,17] ?_); simp only [go_sem, Int.reduceEq, Int.reduceNe, Int.reduceLT, Int.reduceLE, Nat.reduceEqDiff, Nat.reduceAdd, Nat.reduceMul, Nat.reduceLT, Nat.reduceLeDiff, Nat.reduceSub, reduceCtorEq, reduceIte, Int.reduceToNat, beq_self_eq_true, Bool.and_self, u8_solid, List.length_append, List.map_append]
            refine vif rfl ⟨fun ht2 => ?_, (fun hf2 => absurd hd (of_decide_eq_false hf2))⟩
            refine vwp_seq_k fun Ny hNy => ?_
            refine vwp_seq_k fun Nz hNz => vreg tt_ok hF rfl ?_; simp only [go_sem, Int.reduceEq, Int.reduceNe, Int.reduceLT, Int.reduceLE, Nat.reduceEqDiff, Nat.reduceAdd, Nat.reduceMul, Nat.reduceLT, Nat.reduceLeDiff, Nat.reduceSub, reduceCtorEq, reduceIte, Int.reduceToNat, beq_self_eq_true, Bool.and_self, u8_solid, List.length_append, List.map_append]
            refine hNz _ (VWp.keep [2,7,8,9,11,21,22,23,53] [2,7,8,17] ?_); simp only [go_sem, Int.reduceEq, Int.reduceNe, Int.reduceLT, Int.reduceLE, Nat.reduceEqDiff, Nat.reduceAdd, Nat.reduceMul, Nat.reduceLT, Nat.reduceLeDiff, Nat.reduceSub, reduceCtorEq, reduceIte, Int.reduceToNat, beq_self_eq_true, Bool.and_self, u8_solid, List.length_append, List.map_append]
            refine vif rfl ⟨fun ht3 => ?_, (fun hf3 => by cases hf3)⟩
            refine vreg tt_ok hF rfl ?_; simp only [go_sem, Int.reduceEq, Int.reduceNe, Int.reduceLT, Int.reduceLE, Nat.reduceEqDiff, Nat.reduceAdd, Nat.reduceMul, Nat.reduceLT, Nat.reduceLeDiff, Nat.reduceSub, reduceCtorEq, reduceIte, Int.reduceToNat, beq_self_eq_true, Bool.and_self, u8_solid, List.length_append, List.map_append]
            refine hNy _ (VWp.keep [2,7,8,9,11,21,22,23] [2,7,8,17,54] ?_); simp only [go_sem, Int.reduceEq, Int.reduceNe, Int.reduceLT, Int.reduceLE, Nat.reduceEqDiff, Nat.reduceAdd, Nat.reduceMul, Nat.reduceLT, Nat.reduceLeDiff, Nat.reduceSub, reduceCtorEq, reduceIte, Int.reduceToNat, beq_self_eq_true, Bool.and_self, u8_solid, List.length_append, List.map_append]
            refine vregd tt_ok mixed hF rfl (by kernel_rfl) (by kernel_rfl) ?_; simp only [go_sem, Int.reduceEq, Int.reduceNe, Int.reduceLT, Int.reduceLE, Nat.reduceEqDiff, Nat.reduceAdd, Nat.reduceMul, Nat.reduceLT, Nat.reduceLeDiff, Nat.reduceSub, reduceCtorEq, reduceIte, Int.reduceToNat, beq_self_eq_true, Bool.and_self, u8_solid, List.length_append, List.map_append]
            rw [wrap_i64 (by omega) (by omega)]
            refine .inl ⟨_, hdes, ?_⟩; try simp only [go_sem, Int.reduceEq, Int.reduceNe, Int.reduceLT, Int.reduceLE, Nat.reduceEqDiff, Nat.reduceAdd, Nat.reduceMul, Nat.reduceLT, Nat.reduceLeDiff, Nat.reduceSub, reduceCtorEq, reduceIte, Int.reduceToNat, beq_self_eq_true, Bool.and_self, u8_solid, List.length_append, List.map_append]
            refine hNw _ (VWp.keep [2,7,8,9,11,21,22,23] [2,7,8,17,54] ?_); simp only [go_sem, Int.reduceEq, Int.reduceNe, Int.reduceLT, Int.reduceLE, Nat.reduceEqDiff, Nat.reduceAdd, Nat.reduceMul, Nat.reduceLT, Nat.reduceLeDiff, Nat.reduceSub, reduceCtorEq, reduceIte, Int.reduceToNat, beq_self_eq_true, Bool.and_self, u8_solid, List.length_append, List.map_append]
            refine vreg tt_ok hF rfl ?_; simp only [go_sem, Int.reduceEq, Int.reduceNe, Int.reduceLT, Int.reduceLE, Nat.reduceEqDiff, Nat.reduceAdd, Nat.reduceMul, Nat.reduceLT, Nat.reduceLeDiff, Nat.reduceSub, reduceCtorEq, reduceIte, Int.reduceToNat, beq_self_eq_true, Bool.and_self, u8_solid, List.length_append, List.map_append]
            refine ⟨by omega, ?_⟩
            refine hNp _ (VWp.keep [2,7,8,9,21,22,23] [2,7,8,17,54] ?_); simp only [go_sem, Int.reduceEq, Int.reduceNe, Int.reduceLT, Int.reduceLE, Nat.reduceEqDiff, Nat.reduceAdd, Nat.reduceMul, Nat.reduceLT, Nat.reduceLeDiff, Nat.reduceSub, reduceCtorEq, reduceIte, Int.reduceToNat, beq_self_eq_true, Bool.and_self, u8_solid, List.length_append, List.map_append]
            refine vreg tt_ok hF rfl ?_; simp only [go_sem, Int.reduceEq, Int.reduceNe, Int.reduceLT, Int.reduceLE, Nat.reduceEqDiff, Nat.reduceAdd, Nat.reduceMul, Nat.reduceLT, Nat.reduceLeDiff, Nat.reduceSub, reduceCtorEq, reduceIte, Int.reduceToNat, beq_self_eq_true, Bool.and_self, u8_solid, List.length_append, List.map_append]
            rw [wrap_i64 (by omega) (by omega)]
            refine ⟨⟨k + 1, outs, some (desT (l[k].length + 4) ++ l[k])⟩, step_next hlt hk hft hfit rfl (by rw [← heq]; exact hs00) (by simp [desT]) (by simp [desT]; omega) (by first | omega | (simp; omega)), by show l.length - (k + 1) < l.length - k; omega, ?_⟩
            simp only [bkT, bkO, go_sem, Int.reduceEq, Int.reduceNe, Int.reduceLT, Int.reduceLE, Nat.reduceEqDiff, Nat.reduceAdd, Nat.reduceMul, Nat.reduceLT, Nat.reduceLeDiff, Nat.reduceSub, reduceCtorEq, reduceIte, Int.reduceToNat, beq_self_eq_true, Bool.and_self, u8_solid, List.length_append, List.map_append]
            simp [blkR, u8V, des_v, des_len]
            try omega
    · have hkl : k = l.length := by have := of_decide_eq_false hf; omega
      refine vwp_exit ?_
      simp only [go_sem, Int.reduceEq, Int.reduceNe, Int.reduceLT, Int.reduceLE, Nat.reduceEqDiff, Nat.reduceAdd, Nat.reduceMul, Nat.reduceLT, Nat.reduceLeDiff, Nat.reduceSub, reduceCtorEq, reduceIte, Int.reduceToNat, beq_self_eq_true, Bool.and_self, u8_solid, List.length_append, List.map_append]
      refine hNl _ (VWp.keepR [7,9] [2,7,8,17] tt_ok hF rfl fun Naa hNaa => ?_); simp only [go_sem, Int.reduceEq, Int.reduceNe, Int.reduceLT, Int.reduceLE, Nat.reduceEqDiff, Nat.reduceAdd, Nat.reduceMul, Nat.reduceLT, Nat.reduceLeDiff, Nat.reduceSub, reduceCtorEq, reduceIte, Int.reduceToNat, beq_self_eq_true, Bool.and_self, u8_solid, List.length_append, List.map_append]
      refine .inr (bxo [(1000000, 8), (1000001, 2), (1000002, 7), (1000004, 17)] rfl ?_); simp only [go_sem, Int.reduceEq, Int.reduceNe, Int.reduceLT, Int.reduceLE, Nat.reduceEqDiff, Nat.reduceAdd, Nat.reduceMul, Nat.reduceLT, Nat.reduceLeDiff, Nat.reduceSub, reduceCtorEq, reduceIte, Int.reduceToNat, beq_self_eq_true, Bool.and_self, u8_solid, List.length_append, List.map_append]; refine ⟨_, _, hfl0, ?_⟩; try simp only [go_sem, Int.reduceEq, Int.reduceNe, Int.reduceLT, Int.reduceLE, Nat.reduceEqDiff, Nat.reduceAdd, Nat.reduceMul, Nat.reduceLT, Nat.reduceLeDiff, Nat.reduceSub, reduceCtorEq, reduceIte, Int.reduceToNat, beq_self_eq_true, Bool.and_self, u8_solid, List.length_append, List.map_append]
      refine hNaa _ (VWp.keepR [7] [7,17] tt_ok hF rfl fun Nab hNab => ?_); simp only [go_sem, Int.reduceEq, Int.reduceNe, Int.reduceLT, Int.reduceLE, Nat.reduceEqDiff, Nat.reduceAdd, Nat.reduceMul, Nat.reduceLT, Nat.reduceLeDiff, Nat.reduceSub, reduceCtorEq, reduceIte, Int.reduceToNat, beq_self_eq_true, Bool.and_self, u8_solid, List.length_append, List.map_append]
      refine hNab _ (VWp.keep [4,5] [17] ?_); simp only [go_sem, Int.reduceEq, Int.reduceNe, Int.reduceLT, Int.reduceLE, Nat.reduceEqDiff, Nat.reduceAdd, Nat.reduceMul, Nat.reduceLT, Nat.reduceLeDiff, Nat.reduceSub, reduceCtorEq, reduceIte, Int.reduceToNat, beq_self_eq_true, Bool.and_self, u8_solid, List.length_append, List.map_append]
      refine vwp_ret ?_
      simp only [go_sem, Int.reduceEq, Int.reduceNe, Int.reduceLT, Int.reduceLE, Nat.reduceEqDiff, Nat.reduceAdd, Nat.reduceMul, Nat.reduceLT, Nat.reduceLeDiff, Nat.reduceSub, reduceCtorEq, reduceIte, Int.reduceToNat, beq_self_eq_true, Bool.and_self, u8_solid, List.length_append, List.map_append]
      rw [blkE_ok h hl (fun r hr => by obtain ⟨j, hj, rfl⟩ := List.getElem_of_mem hr; have := hft j (by omega); rwa [List.getD_eq_getElem?_getD, List.getElem?_eq_getElem hj] at this), blkT]
      rw [hkl, List.take_length] at heq
      rw [← heq]
      exact LeV.of_eq (by simp [flushT, curF, blkR, u8V])
  | some r1 =>
    simp only [bkT, bkO]
    have hr1 := hln r1 rfl
    have hr0 : 0 < r1.length := List.length_pos_iff.2 (hne r1 rfl)
    have hfl1 := flush_var d hd r1 (by omega) outs (by omega)
    simp only [flN, dcbC, dcbV] at hfl1 ⊢
    refine vwp_seq_k fun Nn hNn => vreg tt_ok hF rfl ?_; simp only [go_sem, Int.reduceEq, Int.reduceNe, Int.reduceLT, Int.reduceLE, Nat.reduceEqDiff, Nat.reduceAdd, Nat.reduceMul, Nat.reduceLT, Nat.reduceLeDiff, Nat.reduceSub, reduceCtorEq, reduceIte, Int.reduceToNat, beq_self_eq_true, Bool.and_self, u8_solid, List.length_append, List.map_append]
    refine hNn _ (VWp.keep [2,7,8,9,21,22,23,24] [2,7,8,17,54] ?_); simp only [go_sem, Int.reduceEq, Int.reduceNe, Int.reduceLT, Int.reduceLE, Nat.reduceEqDiff, Nat.reduceAdd, Nat.reduceMul, Nat.reduceLT, Nat.reduceLeDiff, Nat.reduceSub, reduceCtorEq, reduceIte, Int.reduceToNat, beq_self_eq_true, Bool.and_self, u8_solid, List.length_append, List.map_append]
    refine vwp_seq_k fun No hNo => ?_
    refine vif rfl ⟨fun ht => ?_, fun hf => ?_⟩
    · have hlt : k < l.length := by have := of_decide_eq_true ht; omega
      have hget : (l.map blkR).getD k [] = [V.sl 1 (l[k].map u8c)] := by simp [List.getD_eq_getElem?_getD, List.getElem?_eq_getElem hlt, blkR, u8V]
      have hfits := fits_spec d h (l[k].length : Int)
      have hmem := List.getElem_mem hlt
      simp only [dcbV, dcbC] at hfits
      refine vwp_skip (hNo _ ?_)
      refine vwp_seq_k fun Np hNp => ?_
      refine vwp_block ?_
      refine vwp_seq_k fun Nq hNq => vreg tt_ok hF rfl ?_; simp only [go_sem, Int.reduceEq, Int.reduceNe, Int.reduceLT, Int.reduceLE, Nat.reduceEqDiff, Nat.reduceAdd, Nat.reduceMul, Nat.reduceLT, Nat.reduceLeDiff, Nat.reduceSub, reduceCtorEq, reduceIte, Int.reduceToNat, beq_self_eq_true, Bool.and_self, u8_solid, List.length_append, List.map_append]
      simp only [hget, List.length_map, go_sem, Int.reduceEq, Int.reduceNe, Int.reduceLT, Int.reduceLE, Nat.reduceEqDiff, Nat.reduceAdd, Nat.reduceMul, Nat.reduceLT, Nat.reduceLeDiff, Nat.reduceSub, reduceCtorEq, reduceIte, Int.reduceToNat, beq_self_eq_true, Bool.and_self, u8_solid, List.length_append, List.map_append]
      refine ⟨⟨by omega, by omega⟩, ?_⟩
      refine hNq _ (VWp.keep [2,7,8,9,11,21,22,23] [2,7,8,17,54] ?_); simp only [go_sem, Int.reduceEq, Int.reduceNe, Int.reduceLT, Int.reduceLE, Nat.reduceEqDiff, Nat.reduceAdd, Nat.reduceMul, Nat.reduceLT, Nat.reduceLeDiff, Nat.reduceSub, reduceCtorEq, reduceIte, Int.reduceToNat, beq_self_eq_true, Bool.and_self, u8_solid, List.length_append, List.map_append]
      refine vwp_seq_k fun Nr hNr => ?_
      refine vwp_seq_k fun Ns hNs => vreg tt_ok hF rfl ?_; simp only [go_sem, Int.reduceEq, Int.reduceNe, Int.reduceLT, Int.reduceLE, Nat.reduceEqDiff, Nat.reduceAdd, Nat.reduceMul, Nat.reduceLT, Nat.reduceLeDiff, Nat.reduceSub, reduceCtorEq, reduceIte, Int.reduceToNat, beq_self_eq_true, Bool.and_self, u8_solid, List.length_append, List.map_append]
      refine .inl ⟨_, hfits, ?_⟩; try simp only [go_sem, Int.reduceEq, Int.reduceNe, Int.reduceLT, Int.reduceLE, Nat.reduceEqDiff, Nat.reduceAdd, Nat.reduceMul, Nat.reduceLT, Nat.reduceLeDiff, Nat.reduceSub, reduceCtorEq, reduceIte, Int.reduceToNat, beq_self_eq_true, Bool.and_self, u8_solid, List.length_append, List.map_append]
      refine hNs _ (VWp.keep [2,7,8,9,11,21,22,23,31] [2,7,8,17,54] ?_); simp only [go_sem, Int.reduceEq, Int.reduceNe, Int.reduceLT, Int.reduceLE, Nat.reduceEqDiff, Nat.reduceAdd, Nat.reduceMul, Nat.reduceLT, Nat.reduceLeDiff, Nat.reduceSub, reduceCtorEq, reduceIte, Int.reduceToNat, beq_self_eq_true, Bool.and_self, u8_solid, List.length_append, List.map_append]
      refine vif rfl ⟨fun ht1 => ?_, fun hf1 => ?_⟩
      · refine vwp_seq_k fun Nt hNt => vreg tt_ok hF rfl ?_; simp only [go_sem, Int.reduceEq, Int.reduceNe, Int.reduceLT, Int.reduceLE, Nat.reduceEqDiff, Nat.reduceAdd, Nat.reduceMul, Nat.reduceLT, Nat.reduceLeDiff, Nat.reduceSub, reduceCtorEq, reduceIte, Int.reduceToNat, beq_self_eq_true, Bool.and_self, u8_solid, List.length_append, List.map_append]
        refine hNt _ (VWp.keep [4,5] [] ?_); simp only [go_sem, Int.reduceEq, Int.reduceNe, Int.reduceLT, Int.reduceLE, Nat.reduceEqDiff, Nat.reduceAdd, Nat.reduceMul, Nat.reduceLT, Nat.reduceLeDiff, Nat.reduceSub, reduceCtorEq, reduceIte, Int.reduceToNat, beq_self_eq_true, Bool.and_self, u8_solid, List.length_append, List.map_append]
        refine vwp_ret ?_
        simp only [go_sem, Int.reduceEq, Int.reduceNe, Int.reduceLT, Int.reduceLE, Nat.reduceEqDiff, Nat.reduceAdd, Nat.reduceMul, Nat.reduceLT, Nat.reduceLeDiff, Nat.reduceSub, reduceCtorEq, reduceIte, Int.reduceToNat, beq_self_eq_true, Bool.and_self, u8_solid, List.length_append, List.map_append]
        rw [blkE_bad h hl hmem (by simpa using ht1)]
        exact LeV.tup ⟨LeV.nil _, LeV.refl _, trivial⟩
      · have hfit : fitT d (l[k].length : Int) = true := by simpa using hf1
        have hrl := fit_len h hfit
        have hlen := length_spec d l[k] (by omega)
        have hdes := descriptor_spec (l[k].length + 4) (by omega)
        unfold u8V at hdes
        rw [des_v] at hdes
        have hll : lenT d l[k] = l[k].length + 4 := by unfold lenT; rw [if_pos hd]
        rw [hll] at hlen
        simp only [dcbV, dcbC, u8V] at hlen
        refine vwp_skip (hNr _ ?_)
        refine vwp_seq_k fun Nu hNu => ?_
        have hbc : d.bl = false ∨ d.bl = true := by cases d.bl <;> simp
        rcases hbc with hb | hb
        · have hnb : (!d.bl) = true := by rw [hb]; rfl
          refine vwp_seq_k fun Nv hNv => vregd tt_ok mixed hF rfl (by kernel_rfl) (by kernel_rfl) ?_; simp only [go_sem, Int.reduceEq, Int.reduceNe, Int.reduceLT, Int.reduceLE, Nat.reduceEqDiff, Nat.reduceAdd, Nat.reduceMul, Nat.reduceLT, Nat.reduceLeDiff, Nat.reduceSub, reduceCtorEq, reduceIte, Int.reduceToNat, beq_self_eq_true, Bool.and_self, u8_solid, List.length_append, List.map_append]
          simp only [hnb, go_sem, Int.reduceEq, Int.reduceNe, Int.reduceLT, Int.reduceLE, Nat.reduceEqDiff, Nat.reduceAdd, Nat.reduceMul, Nat.reduceLT, Nat.reduceLeDiff, Nat.reduceSub, reduceCtorEq, reduceIte, Int.reduceToNat, beq_self_eq_true, Bool.and_self, u8_solid, List.length_append, List.map_append]
          refine hNv _ (VWp.keep [2,7,8,9,11,21,22,23,45] [2,7,8,17,54] ?_); simp only [go_sem, Int.reduceEq, Int.reduceNe, Int.reduceLT, Int.reduceLE, Nat.reduceEqDiff, Nat.reduceAdd, Nat.reduceMul, Nat.reduceLT, Nat.reduceLeDiff, Nat.reduceSub, reduceCtorEq, reduceIte, Int.reduceToNat, beq_self_eq_true, Bool.and_self, u8_solid, List.length_append, List.map_append]
          have hcond : (!d.bl || decide (d.blk < ((curF true (some r1)).length + lenT d l[k] : Nat))) = true := by rw [hb]; rfl
          refine vif rfl ⟨fun ht => ?_, (fun hf => by cases hf)⟩
          refine vreg tt_ok hF rfl ?_; simp only [go_sem, Int.reduceEq, Int.reduceNe, Int.reduceLT, Int.reduceLE, Nat.reduceEqDiff, Nat.reduceAdd, Nat.reduceMul, Nat.reduceLT, Nat.reduceLeDiff, Nat.reduceSub, reduceCtorEq, reduceIte, Int.reduceToNat, beq_self_eq_true, Bool.and_self, u8_solid, List.length_append, List.map_append]
          refine .inr (bxo [(1000000, 8), (1000001, 2), (1000002, 7), (1000004, 17), (1000054, 54)] rfl ?_); simp only [go_sem, Int.reduceEq, Int.reduceNe, Int.reduceLT, Int.reduceLE, Nat.reduceEqDiff, Nat.reduceAdd, Nat.reduceMul, Nat.reduceLT, Nat.reduceLeDiff, Nat.reduceSub, reduceCtorEq, reduceIte, Int.reduceToNat, beq_self_eq_true, Bool.and_self, u8_solid, List.length_append, List.map_append]; refine ⟨_, _, hfl1, ?_⟩; try simp only [go_sem, Int.reduceEq, Int.reduceNe, Int.reduceLT, Int.reduceLE, Nat.reduceEqDiff, Nat.reduceAdd, Nat.reduceMul, Nat.reduceLT, Nat.reduceLeDiff, Nat.reduceSub, reduceCtorEq, reduceIte, Int.reduceToNat, beq_self_eq_true, Bool.and_self, u8_solid, List.length_append, List.map_append]
          refine hNu _ (VWp.keep [2,7,8,9,11,21,22,23] [2,7,8,17] ?_); simp only [go_sem, Int.reduceEq, Int.reduceNe, Int.reduceLT, Int.reduceLE, Nat.reduceEqDiff, Nat.reduceAdd, Nat.reduceMul, Nat.reduceLT, Nat.reduceLeDiff, Nat.reduceSub, reduceCtorEq, reduceIte, Int.reduceToNat, beq_self_eq_true, Bool.and_self, u8_solid, List.length_append, List.map_append]
          have hs11 : (outs ++ [desT (r1.length + 4) ++ r1], curF true (some (desT (l[k].length + 4) ++ l[k]))) = stepT d (outs, curF true (some r1)) l[k] := by
            unfold stepT; simp only []; rw [if_pos (by rw [hcond])]; simp [flushT, putT, curF, hd]
          refine vwp_seq_k fun Nw hNw => ?_
          refine vwp_seq_k fun Nx hNx => vreg tt_ok hF rfl ?_; simp only [go_sem, Int.reduceEq, Int.reduceNe, Int.reduceLT, Int.reduceLE, Nat.reduceEqDiff, Nat.reduceAdd, Nat.reduceMul, Nat.reduceLT, Nat.reduceLeDiff, Nat.reduceSub, reduceCtorEq, reduceIte, Int.reduceToNat, beq_self_eq_true, Bool.and_self, u8_solid, List.length_append, List.map_append]
          refine hNx _ (VWp.keep [2,7,8,9,11,21,22,23,50] [2,7,8,17] ?_); simp only [go_sem, Int.reduceEq, Int.reduceNe, Int.reduceLT, Int.reduceLE, Nat.reduceEqDiff, Nat.reduceAdd, Nat.reduceMul, Nat.reduceLT, Nat.reduceLeDiff, Nat.reduceSub, reduceCtorEq, reduceIte, Int.reduceToNat, beq_self_eq_true, Bool.and_self, u8_solid, List.length_append, List.map_append]
          refine vif rfl ⟨fun ht2 => ?_, (fun hf2 => absurd hd (of_decide_eq_false hf2))⟩
          refine vwp_seq_k fun Ny hNy => ?_
          refine vwp_seq_k fun Nz hNz => vreg tt_ok hF rfl ?_; simp only [go_sem, Int.reduceEq, Int.reduceNe, Int.reduceLT, Int.reduceLE, Nat.reduceEqDiff, Nat.reduceAdd, Nat.reduceMul, Nat.reduceLT, Nat.reduceLeDiff, Nat.reduceSub, reduceCtorEq, reduceIte, Int.reduceToNat, beq_self_eq_true, Bool.and_self, u8_solid, List.length_append, List.map_append]
          refine hNz _ (VWp.keep [2,7,8,9,11,21,22,23,53] [2,7,8,17] ?_); simp only [go_sem, Int.reduceEq, Int.reduceNe, Int.reduceLT, Int.reduceLE, Nat.reduceEqDiff, Nat.reduceAdd, Nat.reduceMul, Nat.reduceLT, Nat.reduceLeDiff, Nat.reduceSub, reduceCtorEq, reduceIte, Int.reduceToNat, beq_self_eq_true, Bool.and_self, u8_solid, List.length_append, List.map_append]
          refine vif rfl ⟨fun ht3 => ?_, (fun hf3 => by cases hf3)⟩
          refine vreg tt_ok hF rfl ?_; simp only [go_sem, Int.reduceEq, Int.reduceNe, Int.reduceLT, Int.reduceLE, Nat.reduceEqDiff, Nat.reduceAdd, Nat.reduceMul, Nat.reduceLT, Nat.reduceLeDiff, Nat.reduceSub, reduceCtorEq, reduceIte, Int.reduceToNat, beq_self_eq_true, Bool.and_self, u8_solid, List.length_append, List.map_append]
          refine hNy _ (VWp.keep [2,7,8,9,11,21,22,23] [2,7,8,17,54] ?_); simp only [go_sem, Int.reduceEq, Int.reduceNe, Int.reduceLT, Int.reduceLE, Nat.reduceEqDiff, Nat.reduceAdd, Nat.reduceMul, Nat.reduceLT, Nat.reduceLeDiff, Nat.reduceSub, reduceCtorEq, reduceIte, Int.reduceToNat, beq_self_eq_true, Bool.and_self, u8_solid, List.length_append, List.map_append]
          refine vregd tt_ok mixed hF rfl (by kernel_rfl) (by kernel_rfl) ?_; simp only [go_sem, Int.reduceEq, Int.reduceNe, Int.reduceLT, Int.reduceLE, Nat.reduceEqDiff, Nat.reduceAdd, Nat.reduceMul, Nat.reduceLT, Nat.reduceLeDiff, Nat.reduceSub, reduceCtorEq, reduceIte, Int.reduceToNat, beq_self_eq_true, Bool.and_self, u8_solid, List.length_append, List.map_append]
          rw [wrap_i64 (by omega) (by omega)]
          refine .inl ⟨_, hdes, ?_⟩; try simp only [go_sem, Int.reduceEq, Int.reduceNe, Int.reduceLT, Int.reduceLE, Nat.reduceEqDiff, Nat.reduceAdd, Nat.reduceMul, Nat.reduceLT, Nat.reduceLeDiff, Nat.reduceSub, reduceCtorEq, reduceIte, Int.reduceToNat, beq_self_eq_true, Bool.and_self, u8_solid, List.length_append, List.map_append]
          refine hNw _ (VWp.keep [2,7,8,9,11,21,22,23] [2,7,8,17,54] ?_); simp only [go_sem, Int.reduceEq, Int.reduceNe, Int.reduceLT, Int.reduceLE, Nat.reduceEqDiff, Nat.reduceAdd, Nat.reduceMul, Nat.reduceLT, Nat.reduceLeDiff, Nat.reduceSub, reduceCtorEq, reduceIte, Int.reduceToNat, beq_self_eq_true, Bool.and_self, u8_solid, List.length_append, List.map_append]
          refine vreg tt_ok hF rfl ?_; simp only [go_sem, Int.reduceEq, Int.reduceNe, Int.reduceLT, Int.reduceLE, Nat.reduceEqDiff, Nat.reduceAdd, Nat.reduceMul, Nat.reduceLT, Nat.reduceLeDiff, Nat.reduceSub, reduceCtorEq, reduceIte, Int.reduceToNat, beq_self_eq_true, Bool.and_self, u8_solid, List.length_append, List.map_append]
          refine ⟨by omega, ?_⟩
          refine hNp _ (VWp.keep [2,7,8,9,21,22,23] [2,7,8,17,54] ?_); simp only [go_sem, Int.reduceEq, Int.reduceNe, Int.reduceLT, Int.reduceLE, Nat.reduceEqDiff, Nat.reduceAdd, Nat.reduceMul, Nat.reduceLT, Nat.reduceLeDiff, Nat.reduceSub, reduceCtorEq, reduceIte, Int.reduceToNat, beq_self_eq_true, Bool.and_self, u8_solid, List.length_append, List.map_append]
          refine vreg tt_ok hF rfl ?_; simp only [go_sem, Int.reduceEq, Int.reduceNe, Int.reduceLT, Int.reduceLE, Nat.reduceEqDiff, Nat.reduceAdd, Nat.reduceMul, Nat.reduceLT, Nat.reduceLeDiff, Nat.reduceSub, reduceCtorEq, reduceIte, Int.reduceToNat, beq_self_eq_true, Bool.and_self, u8_solid, List.length_append, List.map_append]
          rw [wrap_i64 (by omega) (by omega)]
          refine ⟨⟨k + 1, outs ++ [desT (r1.length + 4) ++ r1], some (desT (l[k].length + 4) ++ l[k])⟩, step_next hlt hk hft hfit rfl (by rw [← heq]; exact hs11) (by simp [desT]) (by simp [desT]; omega) (by first | omega | (simp; omega)), by show l.length - (k + 1) < l.length - k; omega, ?_⟩
          simp only [bkT, bkO, go_sem, Int.reduceEq, Int.reduceNe, Int.reduceLT, Int.reduceLE, Nat.reduceEqDiff, Nat.reduceAdd, Nat.reduceMul, Nat.reduceLT, Nat.reduceLeDiff, Nat.reduceSub, reduceCtorEq, reduceIte, Int.reduceToNat, beq_self_eq_true, Bool.and_self, u8_solid, List.length_append, List.map_append]
          simp [blkR, u8V, des_v, des_len]
          try omega
        · have hnb : (!d.bl) = false := by rw [hb]; rfl
          refine vwp_seq_k fun Nv hNv => vregd tt_ok mixed hF rfl (by kernel_rfl) (by kernel_rfl) ?_; simp only [go_sem, Int.reduceEq, Int.reduceNe, Int.reduceLT, Int.reduceLE, Nat.reduceEqDiff, Nat.reduceAdd, Nat.reduceMul, Nat.reduceLT, Nat.reduceLeDiff, Nat.reduceSub, reduceCtorEq, reduceIte, Int.reduceToNat, beq_self_eq_true, Bool.and_self, u8_solid, List.length_append, List.map_append]
          simp only [hnb, go_sem, Int.reduceEq, Int.reduceNe, Int.reduceLT, Int.reduceLE, Nat.reduceEqDiff, Nat.reduceAdd, Nat.reduceMul, Nat.reduceLT, Nat.reduceLeDiff, Nat.reduceSub, reduceCtorEq, reduceIte, Int.reduceToNat, beq_self_eq_true, Bool.and_self, u8_solid, List.length_append, List.map_append]
          refine .inl ⟨_, hlen, ?_⟩; try simp only [go_sem, Int.reduceEq, Int.reduceNe, Int.reduceLT, Int.reduceLE, Nat.reduceEqDiff, Nat.reduceAdd, Nat.reduceMul, Nat.reduceLT, Nat.reduceLeDiff, Nat.reduceSub, reduceCtorEq, reduceIte, Int.reduceToNat, beq_self_eq_true, Bool.and_self, u8_solid, List.length_append, List.map_append]
          try simp only [hnb, go_sem, Int.reduceEq, Int.reduceNe, Int.reduceLT, Int.reduceLE, Nat.reduceEqDiff, Nat.reduceAdd, Nat.reduceMul, Nat.reduceLT, Nat.reduceLeDiff, Nat.reduceSub, reduceCtorEq, reduceIte, Int.reduceToNat, beq_self_eq_true, Bool.and_self, u8_solid, List.length_append, List.map_append]
          rw [wrap_i64 (by omega) (by omega)]
          refine hNv _ (VWp.keep [2,7,8,9,11,21,22,23,45] [2,7,8,17,54] ?_); simp only [go_sem, Int.reduceEq, Int.reduceNe, Int.reduceLT, Int.reduceLE, Nat.reduceEqDiff, Nat.reduceAdd, Nat.reduceMul, Nat.reduceLT, Nat.reduceLeDiff, Nat.reduceSub, reduceCtorEq, reduceIte, Int.reduceToNat, beq_self_eq_true, Bool.and_self, u8_solid, List.length_append, List.map_append]
          have hcl : ((curF true (some r1)).length : Int) + (lenT d l[k] : Int) = ((r1.length + 4 : Nat) : Int) + ((l[k].length + 4 : Nat) : Int) := by rw [hll]; first | (simp [curF]; done) | (simp [curF]; omega)
          refine vif rfl ⟨fun ht => ?_, fun hf => ?_⟩
          · have hcond : (!d.bl || decide (d.blk < ((curF true (some r1)).length + lenT d l[k] : Nat))) = true := by rw [hb, Int.natCast_add, hcl, ht]; rfl
            refine vreg tt_ok hF rfl ?_; simp only [go_sem, Int.reduceEq, Int.reduceNe, Int.reduceLT, Int.reduceLE, Nat.reduceEqDiff, Nat.reduceAdd, Nat.reduceMul, Nat.reduceLT, Nat.reduceLeDiff, Nat.reduceSub, reduceCtorEq, reduceIte, Int.reduceToNat, beq_self_eq_true, Bool.and_self, u8_solid, List.length_append, List.map_append]
            refine .inr (bxo [(1000000, 8), (1000001, 2), (1000002, 7), (1000004, 17), (1000054, 54)] rfl ?_); simp only [go_sem, Int.reduceEq, Int.reduceNe, Int.reduceLT, Int.reduceLE, Nat.reduceEqDiff, Nat.reduceAdd, Nat.reduceMul, Nat.reduceLT, Nat.reduceLeDiff, Nat.reduceSub, reduceCtorEq, reduceIte, Int.reduceToNat, beq_self_eq_true, Bool.and_self, u8_solid, List.length_append, List.map_append]; refine ⟨_, _, hfl1, ?_⟩; try simp only [go_sem, Int.reduceEq, Int.reduceNe, Int.reduceLT, Int.reduceLE, Nat.reduceEqDiff, Nat.reduceAdd, Nat.reduceMul, Nat.reduceLT, Nat.reduceLeDiff, Nat.reduceSub, reduceCtorEq, reduceIte, Int.reduceToNat, beq_self_eq_true, Bool.and_self, u8_solid, List.length_append, List.map_append]
            refine hNu _ (VWp.keep [2,7,8,9,11,21,22,23] [2,7,8,17] ?_); simp only [go_sem, Int.reduceEq, Int.reduceNe, Int.reduceLT, Int.reduceLE, Nat.reduceEqDiff, Nat.reduceAdd, Nat.reduceMul, Nat.reduceLT, Nat.reduceLeDiff, Nat.reduceSub, reduceCtorEq, reduceIte, Int.reduceToNat, beq_self_eq_true, Bool.and_self, u8_solid, List.length_append, List.map_append]
            have hs11 : (outs ++ [desT (r1.length + 4) ++ r1], curF true (some (desT (l[k].length + 4) ++ l[k]))) = stepT d (outs, curF true (some r1)) l[k] := by
              unfold stepT; simp only []; rw [if_pos (by rw [hcond])]; simp [flushT, putT, curF, hd]
            refine vwp_seq_k fun Nw hNw => ?_
            refine vwp_seq_k fun Nx hNx => vreg tt_ok hF rfl ?_; simp only [go_sem, Int.reduceEq, Int.reduceNe, Int.reduceLT, Int.reduceLE, Nat.reduceEqDiff, Nat.reduceAdd, Nat.reduceMul, Nat.reduceLT, Nat.reduceLeDiff, Nat.reduceSub, reduceCtorEq, reduceIte, Int.reduceToNat, beq_self_eq_true, Bool.and_self, u8_solid, List.length_append, List.map_append]
            refine hNx _ (VWp.keep [2,7,8,9,11,21,22,23,50] [2,7,8,17] ?_); simp only [go_sem, Int.reduceEq, Int.reduceNe, Int.reduceLT, Int.reduceLE, Nat.reduceEqDiff, Nat.reduceAdd, Nat.reduceMul, Nat.reduceLT, Nat.reduceLeDiff, Nat.reduceSub, reduceCtorEq, reduceIte, Int.reduceToNat, beq_self_eq_true, Bool.and_self, u8_solid, List.length_append, List.map_append]
            refine vif rfl ⟨fun ht2 => ?_, (fun hf2 => absurd hd (of_decide_eq_false hf2))⟩
            refine vwp_seq_k fun Ny hNy => ?_
            refine vwp_seq_k fun Nz hNz => vreg tt_ok hF rfl ?_; simp only [go_sem, Int.reduceEq, Int.reduceNe, Int.reduceLT, Int.reduceLE, Nat.reduceEqDiff, Nat.reduceAdd, Nat.reduceMul, Nat.reduceLT, Nat.reduceLeDiff, Nat.reduceSub, reduceCtorEq, reduceIte, Int.reduceToNat, beq_self_eq_true, Bool.and_self, u8_solid, List.length_append, List.map_append]
            refine hNz _ (VWp.keep [2,7,8,9,11,21,22,23,53] [2,7,8,17] ?_); simp only [go_sem, Int.reduceEq, Int.reduceNe, Int.reduceLT, Int.reduceLE, Nat.reduceEqDiff, Nat.reduceAdd, Nat.reduceMul, Nat.reduceLT, Nat.reduceLeDiff, Nat.reduceSub, reduceCtorEq, reduceIte, Int.reduceToNat, beq_self_eq_true, Bool.and_self, u8_solid, List.length_append, List.map_append]
            refine vif rfl ⟨fun ht3 => ?_, (fun hf3 => by cases hf3)⟩
            refine vreg tt_ok hF rfl ?_; simp only [go_sem, Int.reduceEq, Int.reduceNe, Int.reduceLT, Int.reduceLE, Nat.reduceEqDiff, Nat.reduceAdd, Nat.reduceMul, Nat.reduceLT, Nat.reduceLeDiff, Nat.reduceSub, reduceCtorEq, reduceIte, Int.reduceToNat, beq_self_eq_true, Bool.and_self, u8_solid, List.length_append, List.map_append]
            refine hNy _ (VWp.keep [2,7,8,9,11,21,22,23] [2,7,8,17,54] ?_); simp only [go_sem, Int.reduceEq, Int.reduceNe, Int.reduceLT, Int.reduceLE, Nat.reduceEqDiff, Nat.reduceAdd, Nat.reduceMul, Nat.reduceLT, Nat.reduceLeDiff, Nat.reduceSub, reduceCtorEq, reduceIte, Int.reduceToNat, beq_self_eq_true, Bool.and_self, u8_solid, List.length_append, List.map_append]
            refine vregd tt_ok mixed hF rfl (by kernel_rfl) (by kernel_rfl) ?_; simp only [go_sem, Int.reduceEq, Int.reduceNe, Int.reduceLT, Int.reduceLE, Nat.reduceEqDiff, Nat.reduceAdd, Nat.reduceMul, Nat.reduceLT, Nat.reduceLeDiff, Nat.reduceSub, reduceCtorEq, reduceIte, Int.reduceToNat, beq_self_eq_true, Bool.and_self, u8_solid, List.length_append, List.map_append]
            rw [wrap_i64 (by omega) (by omega)]
            refine .inl ⟨_, hdes, ?_⟩; try simp only [go_sem, Int.reduceEq, Int.reduceNe, Int.reduceLT, Int.reduceLE, Nat.reduceEqDiff, Nat.reduceAdd, Nat.reduceMul, Nat.reduceLT, Nat.reduceLeDiff, Nat.reduceSub, reduceCtorEq, reduceIte, Int.reduceToNat, beq_self_eq_true, Bool.and_self, u8_solid, List.length_append, List.map_append]
            refine hNw _ (VWp.keep [2,7,8,9,11,21,22,23] [2,7,8,17,54] ?_); simp only [go_sem, Int.reduceEq, Int.reduceNe, Int.reduceLT, Int.reduceLE, Nat.reduceEqDiff, Nat.reduceAdd, Nat.reduceMul, Nat.reduceLT, Nat.reduceLeDiff, Nat.reduceSub, reduceCtorEq, reduceIte, Int.reduceToNat, beq_self_eq_true, Bool.and_self, u8_solid, List.length_append, List.map_append]
            refine vreg tt_ok hF rfl ?_; simp only [go_sem, Int.reduceEq, Int.reduceNe, Int.reduceLT, Int.reduceLE, Nat.reduceEqDiff, Nat.reduceAdd, Nat.reduceMul, Nat.reduceLT, Nat.reduceLeDiff, Nat.reduceSub, reduceCtorEq, reduceIte, Int.reduceToNat, beq_self_eq_true, Bool.and_self, u8_solid, List.length_append, List.map_append]
            refine ⟨by omega, ?_⟩
            refine hNp _ (VWp.keep [2,7,8,9,21,22,23] [2,7,8,17,54] ?_); simp only [go_sem, Int.reduceEq, Int.reduceNe, Int.reduceLT, Int.reduceLE, Nat.reduceEqDiff, Nat.reduceAdd, Nat.reduceMul, Nat.reduceLT, Nat.reduceLeDiff, Nat.reduceSub, reduceCtorEq, reduceIte, Int.reduceToNat, beq_self_eq_true, Bool.and_self, u8_solid, List.length_append, List.map_append]
            refine vreg tt_ok hF rfl ?_; simp only [go_sem, Int.reduceEq, Int.reduceNe, Int.reduceLT, Int.reduceLE, Nat.reduceEqDiff, Nat.reduceAdd, Nat.reduceMul, Nat.reduceLT, Nat.reduceLeDiff, Nat.reduceSub, reduceCtorEq, reduceIte, Int.reduceToNat, beq_self_eq_true, Bool.and_self, u8_solid, List.length_append, List.map_append]
            rw [wrap_i64 (by omega) (by omega)]
            refine ⟨⟨k + 1, outs ++ [desT (r1.length + 4) ++ r1], some (desT (l[k].length + 4) ++ l[k])⟩, step_next hlt hk hft hfit rfl (by rw [← heq]; exact hs11) (by simp [desT]) (by simp [desT]; omega) (by first | omega | (simp; omega)), by show l.length - (k + 1) < l.length - k; omega, ?_⟩
            simp only [bkT, bkO, go_sem, Int.reduceEq, Int.reduceNe, Int.reduceLT, Int.reduceLE, Nat.reduceEqDiff, Nat.reduceAdd, Nat.reduceMul, Nat.reduceLT, Nat.reduceLeDiff, Nat.reduceSub, reduceCtorEq, reduceIte, Int.reduceToNat, beq_self_eq_true, Bool.and_self, u8_solid, List.length_append, List.map_append]
            simp [blkR, u8V, des_v, des_len]
            try omega
          · have hcond : (!d.bl || decide (d.blk < ((curF true (some r1)).length + lenT d l[k] : Nat))) = false := by rw [hb, Int.natCast_add, hcl, hf]; rfl
            have hle := of_decide_eq_false hf
            refine vwp_skip (hNu _ ?_)
            have hs10 : (outs, curF true (some (r1 ++ desT (l[k].length + 4) ++ l[k]))) = stepT d (outs, curF true (some r1)) l[k] := by
              unfold stepT; simp only []; rw [if_neg (by rw [hcond]; simp)]; simp [putT, curF, hd]
            refine vwp_seq_k fun Nw hNw => ?_
            refine vwp_seq_k fun Nx hNx => vreg tt_ok hF rfl ?_; simp only [go_sem, Int.reduceEq, Int.reduceNe, Int.reduceLT, Int.reduceLE, Nat.reduceEqDiff, Nat.reduceAdd, Nat.reduceMul, Nat.reduceLT, Nat.reduceLeDiff, Nat.reduceSub, reduceCtorEq, reduceIte, Int.reduceToNat, beq_self_eq_true, Bool.and_self, u8_solid, List.length_append, List.map_append]
            refine hNx _ (VWp.keep [2,7,8,9,11,21,22,23,50] [2,7,8,17,54] ?_); simp only [go_sem, Int.reduceEq, Int.reduceNe, Int.reduceLT, Int.reduceLE, Nat.reduceEqDiff, Nat.reduceAdd, Nat.reduceMul, Nat.reduceLT, Nat.reduceLeDiff, Nat.reduceSub, reduceCtorEq, reduceIte, Int.reduceToNat, beq_self_eq_true, Bool.and_self, u8_solid, List.length_append, List.map_append]
            refine vif rfl ⟨fun ht2 => ?_, (fun hf2 => absurd hd (of_decide_eq_false hf2))⟩
            refine vwp_seq_k fun Ny hNy => ?_
            refine vwp_seq_k fun Nz hNz => vreg tt_ok hF rfl ?_; simp only [go_sem, Int.reduceEq, Int.reduceNe, Int.reduceLT, Int.reduceLE, Nat.reduceEqDiff, Nat.reduceAdd, Nat.reduceMul, Nat.reduceLT, Nat.reduceLeDiff, Nat.reduceSub, reduceCtorEq, reduceIte, Int.reduceToNat, beq_self_eq_true, Bool.and_self, u8_solid, List.length_append, List.map_append]
            refine hNz _ (VWp.keep [2,7,8,9,11,21,22,23,53] [2,7,8,17,54] ?_); simp only [go_sem, Int.reduceEq, Int.reduceNe, Int.reduceLT, Int.reduceLE, Nat.reduceEqDiff, Nat.reduceAdd, Nat.reduceMul, Nat.reduceLT, Nat.reduceLeDiff, Nat.reduceSub, reduceCtorEq, reduceIte, Int.reduceToNat, beq_self_eq_true, Bool.and_self, u8_solid, List.length_append, List.map_append]
            refine vif rfl ⟨(fun ht3 => absurd (of_decide_eq_true ht3) (by omega)), fun hf3 => ?_⟩
            refine vwp_skip (hNy _ ?_)
            refine vregd tt_ok mixed hF rfl (by kernel_rfl) (by kernel_rfl) ?_; simp only [go_sem, Int.reduceEq, Int.reduceNe, Int.reduceLT, Int.reduceLE, Nat.reduceEqDiff, Nat.reduceAdd, Nat.reduceMul, Nat.reduceLT, Nat.reduceLeDiff, Nat.reduceSub, reduceCtorEq, reduceIte, Int.reduceToNat, beq_self_eq_true, Bool.and_self, u8_solid, List.length_append, List.map_append]
            rw [wrap_i64 (by omega) (by omega)]
            refine .inl ⟨_, hdes, ?_⟩; try simp only [go_sem, Int.reduceEq, Int.reduceNe, Int.reduceLT, Int.reduceLE, Nat.reduceEqDiff, Nat.reduceAdd, Nat.reduceMul, Nat.reduceLT, Nat.reduceLeDiff, Nat.reduceSub, reduceCtorEq, reduceIte, Int.reduceToNat, beq_self_eq_true, Bool.and_self, u8_solid, List.length_append, List.map_append]
            refine ⟨by omega, ?_⟩
            refine hNw _ (VWp.keep [2,7,8,9,11,21,22,23] [2,7,8,17,54] ?_); simp only [go_sem, Int.reduceEq, Int.reduceNe, Int.reduceLT, Int.reduceLE, Nat.reduceEqDiff, Nat.reduceAdd, Nat.reduceMul, Nat.reduceLT, Nat.reduceLeDiff, Nat.reduceSub, reduceCtorEq, reduceIte, Int.reduceToNat, beq_self_eq_true, Bool.and_self, u8_solid, List.length_append, List.map_append]
            refine vreg tt_ok hF rfl ?_; simp only [go_sem, Int.reduceEq, Int.reduceNe, Int.reduceLT, Int.reduceLE, Nat.reduceEqDiff, Nat.reduceAdd, Nat.reduceMul, Nat.reduceLT, Nat.reduceLeDiff, Nat.reduceSub, reduceCtorEq, reduceIte, Int.reduceToNat, beq_self_eq_true, Bool.and_self, u8_solid, List.length_append, List.map_append]
            refine ⟨by omega, ?_⟩
            refine hNp _ (VWp.keep [2,7,8,9,21,22,23] [2,7,8,17,54] ?_); simp only [go_sem, Int.reduceEq, Int.reduceNe, Int.reduceLT, Int.reduceLE, Nat.reduceEqDiff, Nat.reduceAdd, Nat.reduceMul, Nat.reduceLT, Nat.reduceLeDiff, Nat.reduceSub, reduceCtorEq, reduceIte, Int.reduceToNat, beq_self_eq_true, Bool.and_self, u8_solid, List.length_append, List.map_append]
            refine vreg tt_ok hF rfl ?_; simp only [go_sem, Int.reduceEq, Int.reduceNe, Int.reduceLT, Int.reduceLE, Nat.reduceEqDiff, Nat.reduceAdd, Nat.reduceMul, Nat.reduceLT, Nat.reduceLeDiff, Nat.reduceSub, reduceCtorEq, reduceIte, Int.reduceToNat, beq_self_eq_true, Bool.and_self, u8_solid, List.length_append, List.map_append]
            rw [wrap_i64 (by omega) (by omega)]
            refine ⟨⟨k + 1, outs, some (r1 ++ desT (l[k].length + 4) ++ l[k])⟩, step_next hlt hk hft hfit rfl (by rw [← heq]; exact hs10) (by simp [desT]) (by simp [desT]; omega) (by first | omega | (simp; omega)), by show l.length - (k + 1) < l.length - k; omega, ?_⟩
            simp only [bkT, bkO, go_sem, Int.reduceEq, Int.reduceNe, Int.reduceLT, Int.reduceLE, Nat.reduceEqDiff, Nat.reduceAdd, Nat.reduceMul, Nat.reduceLT, Nat.reduceLeDiff, Nat.reduceSub, reduceCtorEq, reduceIte, Int.reduceToNat, beq_self_eq_true, Bool.and_self, u8_solid, List.length_append, List.map_append]
            simp [blkR, u8V, des_v, des_len]
            try omega
    · have hkl : k = l.length := by have := of_decide_eq_false hf; omega
      refine vwp_exit ?_
      simp only [go_sem, Int.reduceEq, Int.reduceNe, Int.reduceLT, Int.reduceLE, Nat.reduceEqDiff, Nat.reduceAdd, Nat.reduceMul, Nat.reduceLT, Nat.reduceLeDiff, Nat.reduceSub, reduceCtorEq, reduceIte, Int.reduceToNat, beq_self_eq_true, Bool.and_self, u8_solid, List.length_append, List.map_append]
      refine hNl _ (VWp.keepR [7,9] [2,7,8,17,54] tt_ok hF rfl fun Naa hNaa => ?_); simp only [go_sem, Int.reduceEq, Int.reduceNe, Int.reduceLT, Int.reduceLE, Nat.reduceEqDiff, Nat.reduceAdd, Nat.reduceMul, Nat.reduceLT, Nat.reduceLeDiff, Nat.reduceSub, reduceCtorEq, reduceIte, Int.reduceToNat, beq_self_eq_true, Bool.and_self, u8_solid, List.length_append, List.map_append]
      refine .inr (bxo [(1000000, 8), (1000001, 2), (1000002, 7), (1000004, 17), (1000054, 54)] rfl ?_); simp only [go_sem, Int.reduceEq, Int.reduceNe, Int.reduceLT, Int.reduceLE, Nat.reduceEqDiff, Nat.reduceAdd, Nat.reduceMul, Nat.reduceLT, Nat.reduceLeDiff, Nat.reduceSub, reduceCtorEq, reduceIte, Int.reduceToNat, beq_self_eq_true, Bool.and_self, u8_solid, List.length_append, List.map_append]; refine ⟨_, _, hfl1, ?_⟩; try simp only [go_sem, Int.reduceEq, Int.reduceNe, Int.reduceLT, Int.reduceLE, Nat.reduceEqDiff, Nat.reduceAdd, Nat.reduceMul, Nat.reduceLT, Nat.reduceLeDiff, Nat.reduceSub, reduceCtorEq, reduceIte, Int.reduceToNat, beq_self_eq_true, Bool.and_self, u8_solid, List.length_append, List.map_append]
      refine hNaa _ (VWp.keepR [7] [7,17] tt_ok hF rfl fun Nab hNab => ?_); simp only [go_sem, Int.reduceEq, Int.reduceNe, Int.reduceLT, Int.reduceLE, Nat.reduceEqDiff, Nat.reduceAdd, Nat.reduceMul, Nat.reduceLT, Nat.reduceLeDiff, Nat.reduceSub, reduceCtorEq, reduceIte, Int.reduceToNat, beq_self_eq_true, Bool.and_self, u8_solid, List.length_append, List.map_append]
      refine hNab _ (VWp.keep [4,5] [17] ?_); simp only [go_sem, Int.reduceEq, Int.reduceNe, Int.reduceLT, Int.reduceLE, Nat.reduceEqDiff, Nat.reduceAdd, Nat.reduceMul, Nat.reduceLT, Nat.reduceLeDiff, Nat.reduceSub, reduceCtorEq, reduceIte, Int.reduceToNat, beq_self_eq_true, Bool.and_self, u8_solid, List.length_append, List.map_append]
      refine vwp_ret ?_
      simp only [go_sem, Int.reduceEq, Int.reduceNe, Int.reduceLT, Int.reduceLE, Nat.reduceEqDiff, Nat.reduceAdd, Nat.reduceMul, Nat.reduceLT, Nat.reduceLeDiff, Nat.reduceSub, reduceCtorEq, reduceIte, Int.reduceToNat, beq_self_eq_true, Bool.and_self, u8_solid, List.length_append, List.map_append]
      rw [blkE_ok h hl (fun r hr => by obtain ⟨j, hj, rfl⟩ := List.getElem_of_mem hr; have := hft j (by omega); rwa [List.getD_eq_getElem?_getD, List.getElem?_eq_getElem hj] at this), blkT]
      rw [hkl, List.take_length] at heq
      rw [← heq]
      exact LeV.of_eq (by simp [flushT, curF, blkR, u8V, hd])
end Go.Proofs.YtjedikaidbobdaaGreatDoor

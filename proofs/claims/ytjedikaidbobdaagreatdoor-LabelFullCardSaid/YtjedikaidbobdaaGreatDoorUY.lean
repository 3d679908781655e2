import Derived.Outline
import Derived.Test.YtjedikaidbobdaaGreatDoorUX
/- Layer 26: the longest tape. -/
-- SIMP: beq_self_eq_true, Bool.and_self
namespace Go.Proofs.YtjedikaidbobdaaGreatDoor
open Go.RowKit
open Go.Lib (decDigits)
set_option linter.unusedVariables false
set_option linter.unusedSimpArgs false
def fulD : DcbT := ⟨1, 1, false, false, 1, 1, 0, 0⟩
def fulF (n : Nat) (x : UInt8) : FilT := ⟨[65], fulD, List.replicate n [x]⟩
theorem ful_fold (x : UInt8) : ∀ (n : Nat) (acc : List Tb), (List.replicate n [x]).foldl (stepT fulD) (acc, [x]) = (acc ++ List.replicate n [x], [x])
  | 0, acc => by simp
  | n + 1, acc => by
    rw [List.replicate_succ, List.foldl_cons]
    have : stepT fulD (acc, [x]) [x] = (acc ++ [[x]], [x]) := rfl
    rw [this, ful_fold x n, List.append_assoc]; rfl
theorem ful_blk (x : UInt8) : ∀ n : Nat, blkT fulD (List.replicate n [x]) = List.replicate n [x]
  | 0 => rfl
  | n + 1 => by
    unfold blkT
    rw [List.replicate_succ, List.foldl_cons]
    have h0 : stepT fulD ([], []) [x] = ([], [x]) := rfl
    have h1 : flushT fulD (List.replicate n [x], [x]) = (List.replicate n [x] ++ [[x]], []) := rfl
    rw [h0, ful_fold, List.nil_append, h1]
    show List.replicate n [x] ++ [[x]] = _
    rw [← List.replicate_succ']; rfl
theorem ful_bks (x : UInt8) (n : Nat) (hn : n ≤ 4096) : bksE 0 (fulF n x) = (blocksT 0 (fulF n x) (List.replicate n [x]), 0) := by
  have h1 : filOk (fulF n x) = true := show (nameOk [65] && decide ((1 : Int) = 1) && chkT fulD) = true by decide +kernel
  have h2 : blkE (fulF n x).dcb (fulF n x).recs = (List.replicate n [x], 0) := by
    show blkE fulD (List.replicate n [x]) = _
    rw [blkE_ok (by decide +kernel) (by simpa using hn) (fun r hr => by rw [(List.mem_replicate.1 hr).2]; rfl), ful_blk]
  unfold bksE
  rw [if_pos h1, h2, if_pos rfl]
theorem ful_err (x : UInt8) (n : Nat) (hn : n ≤ 4096) : errB 0 [fulF n x] = 0 := by
  refine errB_none _ _ fun j hj => ?_
  have : j = 0 := by simpa using hj
  subst this
  show (bksE 0 (fulF n x)).2 = 0
  rw [ful_bks x n hn]
theorem ful_len (x : UInt8) (n : Nat) (hn : n ≤ 4096) : (allB 0 [fulF n x]).length = n + 7 := by
  show ((bksE 0 (fulF n x)).1 ++ []).length = _
  rw [ful_bks x n hn, List.append_nil, blocks_len, List.length_replicate]
theorem ful_wrt (x : UInt8) (n : Nat) (hn : n ≤ 4096) : wrtE [65] [fulF n x] = if n + 8 < 4096 then (tapT [65] [fulF n x], 0) else ([], 2) := by
  unfold wrtE
  rw [if_pos (by decide +kernel), if_pos (ful_err x n hn), ful_len x n hn, show 1 + (n + 7) = n + 8 by omega]
  rfl
set_option maxHeartbeats 8000000 in
set_option maxRecDepth 4000 in
theorem Read_long (serial : Tb) (hs : serT serial = true) (B : List TbT) (hb : B[0]? = some (volT serial)) (h1 : 4096 < B.length) (h2 : B.length ≤ 1000000) :
    Spec Tryz.prog 19 [.sl 3 (B.map tbC)] (.tup [.str [], .sl 10 [], .int .i64 260]) := by
  have hvol := volume_B serial hs B h2 hb
  unfold scnO at hvol
  have e0 : decide ((4096 : Int) < (B.length : Int)) = true := decide_eq_true (by omega)
  refine spec_of tt_ok Tryz.func19 rfl (by decide) Tryz.ntmps19 (congrArg Array.toList Tryz.results19) (by simp) (by decide) rfl rfl (fun F hF => ?_)
  refine vwp_seq_k fun Na hNa => vreg tt_ok hF rfl ?_; simp only [go_sem, Int.reduceEq, Int.reduceNe, Int.reduceLT, Int.reduceLE, Nat.reduceEqDiff, Nat.reduceAdd, Nat.reduceMul, Nat.reduceLT, Nat.reduceLeDiff, Nat.reduceSub, reduceCtorEq, reduceIte, Int.reduceToNat, beq_self_eq_true, Bool.and_self]
  refine hNa _ (VWp.keepR [0] [] tt_ok hF rfl fun Nb hNb => ?_); simp only [go_sem, Int.reduceEq, Int.reduceNe, Int.reduceLT, Int.reduceLE, Nat.reduceEqDiff, Nat.reduceAdd, Nat.reduceMul, Nat.reduceLT, Nat.reduceLeDiff, Nat.reduceSub, reduceCtorEq, reduceIte, Int.reduceToNat, beq_self_eq_true, Bool.and_self]
  refine hNb _ (VWp.keepR [0,5] [13] tt_ok hF rfl fun Nc hNc => ?_); simp only [go_sem, Int.reduceEq, Int.reduceNe, Int.reduceLT, Int.reduceLE, Nat.reduceEqDiff, Nat.reduceAdd, Nat.reduceMul, Nat.reduceLT, Nat.reduceLeDiff, Nat.reduceSub, reduceCtorEq, reduceIte, Int.reduceToNat, beq_self_eq_true, Bool.and_self]
  refine .inr (bxo [(1000000, 13)] rfl ?_); simp only [go_sem, Int.reduceEq, Int.reduceNe, Int.reduceLT, Int.reduceLE, Nat.reduceEqDiff, Nat.reduceAdd, Nat.reduceMul, Nat.reduceLT, Nat.reduceLeDiff, Nat.reduceSub, reduceCtorEq, reduceIte, Int.reduceToNat, beq_self_eq_true, Bool.and_self]; refine ⟨_, _, hvol, ?_⟩; try simp only [go_sem, Int.reduceEq, Int.reduceNe, Int.reduceLT, Int.reduceLE, Nat.reduceEqDiff, Nat.reduceAdd, Nat.reduceMul, Nat.reduceLT, Nat.reduceLeDiff, Nat.reduceSub, reduceCtorEq, reduceIte, Int.reduceToNat, beq_self_eq_true, Bool.and_self]
  refine hNc _ (VWp.keep [0,5,6,7] [13] ?_); simp only [go_sem, Int.reduceEq, Int.reduceNe, Int.reduceLT, Int.reduceLE, Nat.reduceEqDiff, Nat.reduceAdd, Nat.reduceMul, Nat.reduceLT, Nat.reduceLeDiff, Nat.reduceSub, reduceCtorEq, reduceIte, Int.reduceToNat, beq_self_eq_true, Bool.and_self]
  refine vwp_seq_k fun Nd hNd => ?_
  refine vwp_seq_k fun Ne hNe => vreg tt_ok hF rfl ?_; simp only [go_sem, Int.reduceEq, Int.reduceNe, Int.reduceLT, Int.reduceLE, Nat.reduceEqDiff, Nat.reduceAdd, Nat.reduceMul, Nat.reduceLT, Nat.reduceLeDiff, Nat.reduceSub, reduceCtorEq, reduceIte, Int.reduceToNat, beq_self_eq_true, Bool.and_self]
  simp only [List.length_map, e0, go_sem, Int.reduceEq, Int.reduceNe, Int.reduceLT, Int.reduceLE, Nat.reduceEqDiff, Nat.reduceAdd, Nat.reduceMul, Nat.reduceLT, Nat.reduceLeDiff, Nat.reduceSub, reduceCtorEq, reduceIte, Int.reduceToNat, beq_self_eq_true, Bool.and_self]
  refine hNe _ (VWp.keep [0,5,6,25] [13] ?_); simp only [go_sem, Int.reduceEq, Int.reduceNe, Int.reduceLT, Int.reduceLE, Nat.reduceEqDiff, Nat.reduceAdd, Nat.reduceMul, Nat.reduceLT, Nat.reduceLeDiff, Nat.reduceSub, reduceCtorEq, reduceIte, Int.reduceToNat, beq_self_eq_true, Bool.and_self]
  refine vif rfl ⟨fun ht => ?_, (fun hf => by cases hf)⟩
  refine vwp_seq_k fun Nf hNf => vreg tt_ok hF rfl ?_; simp only [go_sem, Int.reduceEq, Int.reduceNe, Int.reduceLT, Int.reduceLE, Nat.reduceEqDiff, Nat.reduceAdd, Nat.reduceMul, Nat.reduceLT, Nat.reduceLeDiff, Nat.reduceSub, reduceCtorEq, reduceIte, Int.reduceToNat, beq_self_eq_true, Bool.and_self]
  refine hNf _ (VWp.keep [2,3,4] [] ?_); simp only [go_sem, Int.reduceEq, Int.reduceNe, Int.reduceLT, Int.reduceLE, Nat.reduceEqDiff, Nat.reduceAdd, Nat.reduceMul, Nat.reduceLT, Nat.reduceLeDiff, Nat.reduceSub, reduceCtorEq, reduceIte, Int.reduceToNat, beq_self_eq_true, Bool.and_self]
  refine vwp_ret ?_
  simp only [go_sem, Int.reduceEq, Int.reduceNe, Int.reduceLT, Int.reduceLE, Nat.reduceEqDiff, Nat.reduceAdd, Nat.reduceMul, Nat.reduceLT, Nat.reduceLeDiff, Nat.reduceSub, reduceCtorEq, reduceIte, Int.reduceToNat, beq_self_eq_true, Bool.and_self]
  exact LeV.tup ⟨LeV.refl _, LeV.nil _, LeV.refl _, trivial⟩
theorem LeR.refl : ∀ l : List (List V), LeR l l
  | [] => trivial
  | r :: l => ⟨LeL.refl r, LeR.refl l⟩
theorem LeR.app {a b : List (List V)} (h : LeR a b) : ∀ l : List (List V), LeR (l ++ a) (l ++ b)
  | [] => h
  | r :: l => ⟨LeL.refl r, LeR.app h l⟩
theorem SpecB.le {P : Program} {f : FuncId} {args args' : List V} {os os' : List (Nat × Ob)} {r : V} (h : SpecB P f args' os r os') (hl : LeL args args') : SpecB P f args os r os' :=
  ⟨h.ent, h.clo, h.dom, fun M L Z β w vs ho hv => h.run M L Z β w vs ho (hl.rep hv)⟩
set_option maxHeartbeats 16000000 in
set_option maxRecDepth 4000 in
theorem LabelFull_spec (more : Bool) (x : UInt8) : Spec Tryz.prog 5 [.bool more, .int .u8 (x.toNat : Int)] (.bool true) := by
  have hwk := works_spec
  have hw0 := (Write_B [65] [] (by simp) (by simp) (by decide +kernel) rfl (by simp [allB])).le (args := [.str [65], .nil]) ⟨LeV.refl _, LeV.nil _, trivial⟩
  refine spec_of tt_ok Tryz.func5 rfl (by decide) Tryz.ntmps5 (congrArg Array.toList Tryz.results5) (by simp) (by decide) rfl rfl (fun F hF => ?_)
  refine vwp_seq_k fun Na hNa => vreg tt_ok hF rfl ?_; simp only [go_sem, Int.reduceEq, Int.reduceNe, Int.reduceLT, Int.reduceLE, Nat.reduceEqDiff, Nat.reduceAdd, Nat.reduceMul, Nat.reduceLT, Nat.reduceLeDiff, Nat.reduceSub, reduceCtorEq, reduceIte, Int.reduceToNat, beq_self_eq_true, Bool.and_self]
  refine hNa _ (VWp.keepR [0,1] [] tt_ok hF rfl fun Nb hNb => ?_); simp only [go_sem, Int.reduceEq, Int.reduceNe, Int.reduceLT, Int.reduceLE, Nat.reduceEqDiff, Nat.reduceAdd, Nat.reduceMul, Nat.reduceLT, Nat.reduceLeDiff, Nat.reduceSub, reduceCtorEq, reduceIte, Int.reduceToNat, beq_self_eq_true, Bool.and_self]
  refine hNb _ (VWp.keepR [0,1,5] [5] tt_ok hF rfl fun Nc hNc => ?_); simp only [go_sem, Int.reduceEq, Int.reduceNe, Int.reduceLT, Int.reduceLE, Nat.reduceEqDiff, Nat.reduceAdd, Nat.reduceMul, Nat.reduceLT, Nat.reduceLeDiff, Nat.reduceSub, reduceCtorEq, reduceIte, Int.reduceToNat, beq_self_eq_true, Bool.and_self]
  refine hNc _ (VWp.keep [0,1,5,6] [5] ?_); simp only [go_sem, Int.reduceEq, Int.reduceNe, Int.reduceLT, Int.reduceLE, Nat.reduceEqDiff, Nat.reduceAdd, Nat.reduceMul, Nat.reduceLT, Nat.reduceLeDiff, Nat.reduceSub, reduceCtorEq, reduceIte, Int.reduceToNat, beq_self_eq_true, Bool.and_self]
  refine vmeet (fun N : Nat => [(0, .bool more), (1, .int .u8 (x.toNat : Int)), (5, .ptr 5 0), (6, .int .i64 (N : Int))]) (fun _ => [(5, .box 44 [.str [65], .int .i64 1, .int .i64 1, .bool false, .bool false, .int .i64 1, .int .i64 1, .int .i64 0, .int .i64 0, .nil])]) (fun N => N = if more then 4088 else 4087) ?_ ?_
  · refine vwp_seq_k fun Ne hNe => vreg tt_ok hF rfl ?_; simp only [go_sem, Int.reduceEq, Int.reduceNe, Int.reduceLT, Int.reduceLE, Nat.reduceEqDiff, Nat.reduceAdd, Nat.reduceMul, Nat.reduceLT, Nat.reduceLeDiff, Nat.reduceSub, reduceCtorEq, reduceIte, Int.reduceToNat, beq_self_eq_true, Bool.and_self]
    refine hNe _ (VWp.keep [0,1,5,6,22] [5] ?_); simp only [go_sem, Int.reduceEq, Int.reduceNe, Int.reduceLT, Int.reduceLE, Nat.reduceEqDiff, Nat.reduceAdd, Nat.reduceMul, Nat.reduceLT, Nat.reduceLeDiff, Nat.reduceSub, reduceCtorEq, reduceIte, Int.reduceToNat, beq_self_eq_true, Bool.and_self]
    refine vif rfl ⟨fun ht => ?_, fun hf => ?_⟩
    · refine vreg tt_ok hF rfl ?_; simp only [go_sem, Int.reduceEq, Int.reduceNe, Int.reduceLT, Int.reduceLE, Nat.reduceEqDiff, Nat.reduceAdd, Nat.reduceMul, Nat.reduceLT, Nat.reduceLeDiff, Nat.reduceSub, reduceCtorEq, reduceIte, Int.reduceToNat, beq_self_eq_true, Bool.and_self]
      exact ⟨4088, by rw [ht]; rfl, rfl⟩
    · refine vwp_skip ⟨4087, ?_⟩
      simp only [go_sem, Int.reduceEq, Int.reduceNe, Int.reduceLT, Int.reduceLE, Nat.reduceEqDiff, Nat.reduceAdd, Nat.reduceMul, Nat.reduceLT, Nat.reduceLeDiff, Nat.reduceSub, reduceCtorEq, reduceIte, Int.reduceToNat, beq_self_eq_true, Bool.and_self]
      rw [hf]; rfl
  · intro N hN
    have hN2 : N ≤ 4088 := by rw [hN]; split <;> omega
    have hrow : ∀ k, (List.replicate k [x]).map blkR ++ [[V.sl 1 [[V.int .u8 (x.toNat : Int)]]]] = (List.replicate (k + 1) [x]).map blkR := fun k => by rw [List.replicate_succ', List.map_append]; rfl
    refine VWp.adoptB 500000 1 45 (o := 5) (i := 9) (T := 44) rfl rfl rfl (by decide) ?_
    simp only [go_sem, Int.reduceEq, Int.reduceNe, Int.reduceLT, Int.reduceLE, Nat.reduceEqDiff, Nat.reduceAdd, Nat.reduceMul, Nat.reduceLT, Nat.reduceLeDiff, Nat.reduceSub, reduceCtorEq, reduceIte, Int.reduceToNat, beq_self_eq_true, Bool.and_self]
    refine vwp_seq_k fun Nf hNf => ?_
    refine vwp_seq_k fun Ng hNg => vreg tt_ok hF rfl ?_; simp only [go_sem, Int.reduceEq, Int.reduceNe, Int.reduceLT, Int.reduceLE, Nat.reduceEqDiff, Nat.reduceAdd, Nat.reduceMul, Nat.reduceLT, Nat.reduceLeDiff, Nat.reduceSub, reduceCtorEq, reduceIte, Int.reduceToNat, beq_self_eq_true, Bool.and_self]
    refine hNg _ (VWp.keep [0,1,5,6,7] [5,500000] ?_); simp only [go_sem, Int.reduceEq, Int.reduceNe, Int.reduceLT, Int.reduceLE, Nat.reduceEqDiff, Nat.reduceAdd, Nat.reduceMul, Nat.reduceLT, Nat.reduceLeDiff, Nat.reduceSub, reduceCtorEq, reduceIte, Int.reduceToNat, beq_self_eq_true, Bool.and_self]
    refine vwp_block (vloop (fun k : Nat => [(0, .bool more), (1, .int .u8 (x.toNat : Int)), (5, .ptr 5 0), (6, .int .i64 (N : Int)), (7, .int .i64 (k : Int))]) (fun k => [(5, .box 44 [.str [65], .int .i64 1, .int .i64 1, .bool false, .bool false, .int .i64 1, .int .i64 1, .int .i64 0, .int .i64 0, .own 500000 ((List.replicate k [x]).map blkR).length]), (500000, .arr 1 45 ((List.replicate k [x]).map blkR))]) (fun k => k ≤ N) (fun k => N - k) 0 (Nat.zero_le _) (by simp only [List.replicate_zero, List.map_nil, List.length_nil, go_sem, Int.reduceEq, Int.reduceNe, Int.reduceLT, Int.reduceLE, Nat.reduceEqDiff, Nat.reduceAdd, Nat.reduceMul, Nat.reduceLT, Nat.reduceLeDiff, Nat.reduceSub, reduceCtorEq, reduceIte, Int.reduceToNat, beq_self_eq_true, Bool.and_self]; try simp) ?_)
    intro k hk
    refine vwp_seq_k fun Nh hNh => ?_
    refine vwp_seq_k fun Ni hNi => vreg tt_ok hF rfl ?_; simp only [go_sem, Int.reduceEq, Int.reduceNe, Int.reduceLT, Int.reduceLE, Nat.reduceEqDiff, Nat.reduceAdd, Nat.reduceMul, Nat.reduceLT, Nat.reduceLeDiff, Nat.reduceSub, reduceCtorEq, reduceIte, Int.reduceToNat, beq_self_eq_true, Bool.and_self]
    refine hNi _ (VWp.keep [0,1,5,6,7,27] [5,500000] ?_); simp only [go_sem, Int.reduceEq, Int.reduceNe, Int.reduceLT, Int.reduceLE, Nat.reduceEqDiff, Nat.reduceAdd, Nat.reduceMul, Nat.reduceLT, Nat.reduceLeDiff, Nat.reduceSub, reduceCtorEq, reduceIte, Int.reduceToNat, beq_self_eq_true, Bool.and_self]
    refine vif rfl ⟨fun ht => ?_, fun hf => ?_⟩
    · have hlt : k < N := by have := of_decide_eq_true ht; omega
      have hnext := hrow k
      refine vwp_skip (hNh _ ?_)
      refine vwp_seq_k fun Nj hNj => ?_
      refine vwp_block ?_
      refine vreg tt_ok hF rfl ?_; simp only [go_sem, Int.reduceEq, Int.reduceNe, Int.reduceLT, Int.reduceLE, Nat.reduceEqDiff, Nat.reduceAdd, Nat.reduceMul, Nat.reduceLT, Nat.reduceLeDiff, Nat.reduceSub, reduceCtorEq, reduceIte, Int.reduceToNat, beq_self_eq_true, Bool.and_self]
      refine ⟨by simp; omega, ?_⟩
      rw [hnext]
      refine hNj _ (VWp.keep [0,1,5,6,7] [5,500000] ?_); simp only [go_sem, Int.reduceEq, Int.reduceNe, Int.reduceLT, Int.reduceLE, Nat.reduceEqDiff, Nat.reduceAdd, Nat.reduceMul, Nat.reduceLT, Nat.reduceLeDiff, Nat.reduceSub, reduceCtorEq, reduceIte, Int.reduceToNat, beq_self_eq_true, Bool.and_self]
      refine vreg tt_ok hF rfl ?_; simp only [go_sem, Int.reduceEq, Int.reduceNe, Int.reduceLT, Int.reduceLE, Nat.reduceEqDiff, Nat.reduceAdd, Nat.reduceMul, Nat.reduceLT, Nat.reduceLeDiff, Nat.reduceSub, reduceCtorEq, reduceIte, Int.reduceToNat, beq_self_eq_true, Bool.and_self]
      rw [wrap_i64 (by omega) (by omega)]
      exact ⟨k + 1, by omega, by omega, by simp [List.replicate_succ]⟩
    · have hke : k = N := by have := of_decide_eq_false hf; omega
      subst hke
      refine vwp_exit ?_
      simp only [go_sem, Int.reduceEq, Int.reduceNe, Int.reduceLT, Int.reduceLE, Nat.reduceEqDiff, Nat.reduceAdd, Nat.reduceMul, Nat.reduceLT, Nat.reduceLeDiff, Nat.reduceSub, reduceCtorEq, reduceIte, Int.reduceToNat, beq_self_eq_true, Bool.and_self]
      refine hNf _ ?_
      refine VWp.lookB 5 9 (d := 500000) (k := 1) (E := 45) (rows := (List.replicate k [x]).map blkR) rfl rfl rfl (by simp) (prvB_no rfl) ?_
      simp only [go_sem, Int.reduceEq, Int.reduceNe, Int.reduceLT, Int.reduceLE, Nat.reduceEqDiff, Nat.reduceAdd, Nat.reduceMul, Nat.reduceLT, Nat.reduceLeDiff, Nat.reduceSub, reduceCtorEq, reduceIte, Int.reduceToNat, beq_self_eq_true, Bool.and_self]
      have hlr : (fulF k x).recs.length ≤ 4096 := by simp [fulF]; omega
      have hS : ∀ f ∈ [fulF k x], FilS f := fun f hf => by rw [List.mem_singleton] at hf; rw [hf]; exact ⟨hlr, by show 1 ≤ 1000000; omega⟩
      have hput := Put_R [65] [] [mrkT] (fulF k x) (by decide +kernel) rfl (fun f hf => by cases hf) (by show 2 ≤ 1000000; omega) (by simp) hlr (by show 1 ≤ 1000000; omega) 0 rfl
      have hfw := ful_wrt x k (by omega)
      rw [List.nil_append, hfw] at hput
      change SpecB _ _ _ _ (.tup [.own 17 ((tapR [65] [] [mrkT]).map tbC).length, _]) [(17, .arr 3 48 ((tapR [65] [] [mrkT]).map tbC))] at hw0
      generalize (tapR [65] [] [mrkT]).map tbC = T0 at *
      cases more with
      | true =>
        have hk8 : k = 4088 := hN
        rw [if_neg (by omega)] at hput hfw
        have hwr := Write_err [65] [fulF k x] (by simp) hS (by rw [hfw]; decide)
        rw [hfw] at hwr
        simp only [List.map_cons, List.map_nil, filV, filC, fulF, fulD] at hput hwr
        refine vwp_seq_k fun Nk hNk => vreg tt_ok hF rfl ?_; simp only [go_sem, Int.reduceEq, Int.reduceNe, Int.reduceLT, Int.reduceLE, Nat.reduceEqDiff, Nat.reduceAdd, Nat.reduceMul, Nat.reduceLT, Nat.reduceLeDiff, Nat.reduceSub, reduceCtorEq, reduceIte, Int.reduceToNat, beq_self_eq_true, Bool.and_self]
        refine .inl ⟨_, hwr, ?_⟩; try simp only [go_sem, Int.reduceEq, Int.reduceNe, Int.reduceLT, Int.reduceLE, Nat.reduceEqDiff, Nat.reduceAdd, Nat.reduceMul, Nat.reduceLT, Nat.reduceLeDiff, Nat.reduceSub, reduceCtorEq, reduceIte, Int.reduceToNat, beq_self_eq_true, Bool.and_self]
        refine hNk _ (VWp.keepR [0,5,6,8,9] [5] tt_ok hF rfl fun Nl hNl => ?_); simp only [go_sem, Int.reduceEq, Int.reduceNe, Int.reduceLT, Int.reduceLE, Nat.reduceEqDiff, Nat.reduceAdd, Nat.reduceMul, Nat.reduceLT, Nat.reduceLeDiff, Nat.reduceSub, reduceCtorEq, reduceIte, Int.reduceToNat, beq_self_eq_true, Bool.and_self]
        refine .inr (bxo [(17, 44)] rfl ?_); simp only [go_sem, Int.reduceEq, Int.reduceNe, Int.reduceLT, Int.reduceLE, Nat.reduceEqDiff, Nat.reduceAdd, Nat.reduceMul, Nat.reduceLT, Nat.reduceLeDiff, Nat.reduceSub, reduceCtorEq, reduceIte, Int.reduceToNat, beq_self_eq_true, Bool.and_self]; refine ⟨_, _, hw0, ?_⟩; try simp only [go_sem, Int.reduceEq, Int.reduceNe, Int.reduceLT, Int.reduceLE, Nat.reduceEqDiff, Nat.reduceAdd, Nat.reduceMul, Nat.reduceLT, Nat.reduceLeDiff, Nat.reduceSub, reduceCtorEq, reduceIte, Int.reduceToNat, beq_self_eq_true, Bool.and_self]
        refine hNl _ (VWp.keep [0,5,6,8,9,10,11] [5,44] ?_); simp only [go_sem, Int.reduceEq, Int.reduceNe, Int.reduceLT, Int.reduceLE, Nat.reduceEqDiff, Nat.reduceAdd, Nat.reduceMul, Nat.reduceLT, Nat.reduceLeDiff, Nat.reduceSub, reduceCtorEq, reduceIte, Int.reduceToNat, beq_self_eq_true, Bool.and_self]
        refine vwp_seq_k fun Nm hNm => ?_
        refine vwp_seq_k fun Nn hNn => vreg tt_ok hF rfl ?_; simp only [go_sem, Int.reduceEq, Int.reduceNe, Int.reduceLT, Int.reduceLE, Nat.reduceEqDiff, Nat.reduceAdd, Nat.reduceMul, Nat.reduceLT, Nat.reduceLeDiff, Nat.reduceSub, reduceCtorEq, reduceIte, Int.reduceToNat, beq_self_eq_true, Bool.and_self]
        refine hNn _ (VWp.keep [0,5,6,8,9,10,48] [5,44] ?_); simp only [go_sem, Int.reduceEq, Int.reduceNe, Int.reduceLT, Int.reduceLE, Nat.reduceEqDiff, Nat.reduceAdd, Nat.reduceMul, Nat.reduceLT, Nat.reduceLeDiff, Nat.reduceSub, reduceCtorEq, reduceIte, Int.reduceToNat, beq_self_eq_true, Bool.and_self]
        refine vif rfl ⟨(fun ht => by cases ht), fun hf => ?_⟩
        refine vwp_skip (hNm _ ?_)
        refine vwp_seq_k fun Np hNp => vreg tt_ok hF rfl ?_; simp only [go_sem, Int.reduceEq, Int.reduceNe, Int.reduceLT, Int.reduceLE, Nat.reduceEqDiff, Nat.reduceAdd, Nat.reduceMul, Nat.reduceLT, Nat.reduceLeDiff, Nat.reduceSub, reduceCtorEq, reduceIte, Int.reduceToNat, beq_self_eq_true, Bool.and_self]
        refine .inl ⟨_, hput, ?_⟩; try simp only [go_sem, Int.reduceEq, Int.reduceNe, Int.reduceLT, Int.reduceLE, Nat.reduceEqDiff, Nat.reduceAdd, Nat.reduceMul, Nat.reduceLT, Nat.reduceLeDiff, Nat.reduceSub, reduceCtorEq, reduceIte, Int.reduceToNat, beq_self_eq_true, Bool.and_self]
        refine hNp _ (VWp.keep [0,6,8,9,12,13] [] ?_); simp only [go_sem, Int.reduceEq, Int.reduceNe, Int.reduceLT, Int.reduceLE, Nat.reduceEqDiff, Nat.reduceAdd, Nat.reduceMul, Nat.reduceLT, Nat.reduceLeDiff, Nat.reduceSub, reduceCtorEq, reduceIte, Int.reduceToNat, beq_self_eq_true, Bool.and_self]
        refine vwp_seq_k fun Nq hNq => ?_
        refine vwp_seq_k fun Nr hNr => vreg tt_ok hF rfl ?_; simp only [go_sem, Int.reduceEq, Int.reduceNe, Int.reduceLT, Int.reduceLE, Nat.reduceEqDiff, Nat.reduceAdd, Nat.reduceMul, Nat.reduceLT, Nat.reduceLeDiff, Nat.reduceSub, reduceCtorEq, reduceIte, Int.reduceToNat, beq_self_eq_true, Bool.and_self]
        refine hNr _ (VWp.keep [6,8,9,12,13,55] [] ?_); simp only [go_sem, Int.reduceEq, Int.reduceNe, Int.reduceLT, Int.reduceLE, Nat.reduceEqDiff, Nat.reduceAdd, Nat.reduceMul, Nat.reduceLT, Nat.reduceLeDiff, Nat.reduceSub, reduceCtorEq, reduceIte, Int.reduceToNat, beq_self_eq_true, Bool.and_self]
        refine vif rfl ⟨fun ht => ?_, (fun hf => by cases hf)⟩
        refine vwp_seq_k fun Ns hNs => vreg tt_ok hF rfl ?_; simp only [go_sem, Int.reduceEq, Int.reduceNe, Int.reduceLT, Int.reduceLE, Nat.reduceEqDiff, Nat.reduceAdd, Nat.reduceMul, Nat.reduceLT, Nat.reduceLeDiff, Nat.reduceSub, reduceCtorEq, reduceIte, Int.reduceToNat, beq_self_eq_true, Bool.and_self]
        refine .inl ⟨_, hwk, ?_⟩; try simp only [go_sem, Int.reduceEq, Int.reduceNe, Int.reduceLT, Int.reduceLE, Nat.reduceEqDiff, Nat.reduceAdd, Nat.reduceMul, Nat.reduceLT, Nat.reduceLeDiff, Nat.reduceSub, reduceCtorEq, reduceIte, Int.reduceToNat, beq_self_eq_true, Bool.and_self]
        refine hNs _ (VWp.keep [4] [] ?_); simp only [go_sem, Int.reduceEq, Int.reduceNe, Int.reduceLT, Int.reduceLE, Nat.reduceEqDiff, Nat.reduceAdd, Nat.reduceMul, Nat.reduceLT, Nat.reduceLeDiff, Nat.reduceSub, reduceCtorEq, reduceIte, Int.reduceToNat, beq_self_eq_true, Bool.and_self]
        refine vwp_ret ?_
        simp only [go_sem, Int.reduceEq, Int.reduceNe, Int.reduceLT, Int.reduceLE, Nat.reduceEqDiff, Nat.reduceAdd, Nat.reduceMul, Nat.reduceLT, Nat.reduceLeDiff, Nat.reduceSub, reduceCtorEq, reduceIte, Int.reduceToNat, beq_self_eq_true, Bool.and_self]
        exact LeV.refl _
      | false =>
        have hk8 : k = 4087 := hN
        rw [if_pos (by omega)] at hput hfw
        have hwr := Write_B [65] [fulF k x] (by simp) hS (by decide +kernel) (ful_err x k (by omega)) (by rw [ful_len x k (by omega)]; omega)
        have htl : (tapT [65] [fulF k x]).length = 4096 := by unfold tapT tapR; rw [List.length_append, List.length_cons, ful_len x k (by omega)]; simp; omega
        have hrd := Read_spec [65] [fulF k x] (by decide +kernel) (ful_err x k (by omega)) (fun f hf => (hS f hf).r) (by omega) (by simp)
        have hlo := Read_long [65] (by decide +kernel) (tapT [65] [fulF k x] ++ [mrkT]) rfl (by rw [List.length_append, htl]; decide) (by rw [List.length_append, htl]; decide)
        have hsb := SameBlocks_spec (tapT [65] [fulF k x]) (by omega)
        rw [show (allB 0 [fulF k x]).length + 2 = ((tapT [65] [fulF k x]).map tbC).length by rw [List.length_map, htl, ful_len x k (by omega)]; omega] at hwr
        change SpecB _ _ _ _ _ [(17, .arr 3 48 ((tapT [65] [fulF k x]).map tbC))] at hwr
        have hTl : ((tapT [65] [fulF k x]).map tbC).length = 4096 := by rw [List.length_map, htl]
        have hmk : tbC mrkT = [.bool true, .sl 1 [], .bool false] := rfl
        rw [List.map_append, List.map_cons, List.map_nil, hmk] at hlo
        have hcl : cleanR ((tapT [65] [fulF k x]).map tbC ++ [[.bool true, .sl 1 [], .bool false]]) := fun r hr => by
          rcases List.mem_append.1 hr with h | h
          · obtain ⟨_, _, rfl⟩ := List.mem_map.1 h; rfl
          · rw [List.mem_singleton] at h; subst h; rfl
        have hlo := hlo.le (args := [.sl 3 ((tapT [65] [fulF k x]).map tbC ++ [[.bool true, .nil, .bool false]])]) ⟨LeV.sl (LeR.app (a := [[.bool true, .nil, .bool false]]) (b := [[.bool true, .sl 1 [], .bool false]]) ⟨⟨LeV.refl _, LeV.nil _, LeV.refl _, trivial⟩, trivial⟩ _) hcl, trivial⟩
        clear hcl
        generalize (tapT [65] [fulF k x]).map tbC = T at *
        simp only [List.map_cons, List.map_nil, filV, filC, fulF, fulD] at hput hwr hrd
        refine vwp_seq_k fun Nk hNk => vreg tt_ok hF rfl ?_; simp only [go_sem, Int.reduceEq, Int.reduceNe, Int.reduceLT, Int.reduceLE, Nat.reduceEqDiff, Nat.reduceAdd, Nat.reduceMul, Nat.reduceLT, Nat.reduceLeDiff, Nat.reduceSub, reduceCtorEq, reduceIte, Int.reduceToNat, beq_self_eq_true, Bool.and_self]
        refine .inr (bxo [(17, 40)] rfl ?_); simp only [go_sem, Int.reduceEq, Int.reduceNe, Int.reduceLT, Int.reduceLE, Nat.reduceEqDiff, Nat.reduceAdd, Nat.reduceMul, Nat.reduceLT, Nat.reduceLeDiff, Nat.reduceSub, reduceCtorEq, reduceIte, Int.reduceToNat, beq_self_eq_true, Bool.and_self]; refine ⟨_, _, hwr, ?_⟩; try simp only [go_sem, Int.reduceEq, Int.reduceNe, Int.reduceLT, Int.reduceLE, Nat.reduceEqDiff, Nat.reduceAdd, Nat.reduceMul, Nat.reduceLT, Nat.reduceLeDiff, Nat.reduceSub, reduceCtorEq, reduceIte, Int.reduceToNat, beq_self_eq_true, Bool.and_self]
        refine hNk _ (VWp.keepR [0,5,6,8,9] [5,40] tt_ok hF rfl fun Nl hNl => ?_); simp only [go_sem, Int.reduceEq, Int.reduceNe, Int.reduceLT, Int.reduceLE, Nat.reduceEqDiff, Nat.reduceAdd, Nat.reduceMul, Nat.reduceLT, Nat.reduceLeDiff, Nat.reduceSub, reduceCtorEq, reduceIte, Int.reduceToNat, beq_self_eq_true, Bool.and_self]
        refine .inr (bxo [(17, 44)] rfl ?_); simp only [go_sem, Int.reduceEq, Int.reduceNe, Int.reduceLT, Int.reduceLE, Nat.reduceEqDiff, Nat.reduceAdd, Nat.reduceMul, Nat.reduceLT, Nat.reduceLeDiff, Nat.reduceSub, reduceCtorEq, reduceIte, Int.reduceToNat, beq_self_eq_true, Bool.and_self]; refine ⟨_, _, hw0, ?_⟩; try simp only [go_sem, Int.reduceEq, Int.reduceNe, Int.reduceLT, Int.reduceLE, Nat.reduceEqDiff, Nat.reduceAdd, Nat.reduceMul, Nat.reduceLT, Nat.reduceLeDiff, Nat.reduceSub, reduceCtorEq, reduceIte, Int.reduceToNat, beq_self_eq_true, Bool.and_self]
        refine hNl _ (VWp.keep [0,5,6,8,9,10,11] [5,40,44] ?_); simp only [go_sem, Int.reduceEq, Int.reduceNe, Int.reduceLT, Int.reduceLE, Nat.reduceEqDiff, Nat.reduceAdd, Nat.reduceMul, Nat.reduceLT, Nat.reduceLeDiff, Nat.reduceSub, reduceCtorEq, reduceIte, Int.reduceToNat, beq_self_eq_true, Bool.and_self]
        refine vwp_seq_k fun Nm hNm => ?_
        refine vwp_seq_k fun Nn hNn => vreg tt_ok hF rfl ?_; simp only [go_sem, Int.reduceEq, Int.reduceNe, Int.reduceLT, Int.reduceLE, Nat.reduceEqDiff, Nat.reduceAdd, Nat.reduceMul, Nat.reduceLT, Nat.reduceLeDiff, Nat.reduceSub, reduceCtorEq, reduceIte, Int.reduceToNat, beq_self_eq_true, Bool.and_self]
        refine hNn _ (VWp.keep [0,5,6,8,9,10,48] [5,40,44] ?_); simp only [go_sem, Int.reduceEq, Int.reduceNe, Int.reduceLT, Int.reduceLE, Nat.reduceEqDiff, Nat.reduceAdd, Nat.reduceMul, Nat.reduceLT, Nat.reduceLeDiff, Nat.reduceSub, reduceCtorEq, reduceIte, Int.reduceToNat, beq_self_eq_true, Bool.and_self]
        refine vif rfl ⟨(fun ht => by cases ht), fun hf => ?_⟩
        refine vwp_skip (hNm _ ?_)
        refine vwp_seq_k fun Np hNp => vreg tt_ok hF rfl ?_; simp only [go_sem, Int.reduceEq, Int.reduceNe, Int.reduceLT, Int.reduceLE, Nat.reduceEqDiff, Nat.reduceAdd, Nat.reduceMul, Nat.reduceLT, Nat.reduceLeDiff, Nat.reduceSub, reduceCtorEq, reduceIte, Int.reduceToNat, beq_self_eq_true, Bool.and_self]
        refine .inl ⟨_, hput, ?_⟩; try simp only [go_sem, Int.reduceEq, Int.reduceNe, Int.reduceLT, Int.reduceLE, Nat.reduceEqDiff, Nat.reduceAdd, Nat.reduceMul, Nat.reduceLT, Nat.reduceLeDiff, Nat.reduceSub, reduceCtorEq, reduceIte, Int.reduceToNat, beq_self_eq_true, Bool.and_self]
        refine hNp _ (VWp.keep [0,6,8,9,12,13] [40] ?_); simp only [go_sem, Int.reduceEq, Int.reduceNe, Int.reduceLT, Int.reduceLE, Nat.reduceEqDiff, Nat.reduceAdd, Nat.reduceMul, Nat.reduceLT, Nat.reduceLeDiff, Nat.reduceSub, reduceCtorEq, reduceIte, Int.reduceToNat, beq_self_eq_true, Bool.and_self]
        refine vwp_seq_k fun Nq hNq => ?_
        refine vwp_seq_k fun Nr hNr => vreg tt_ok hF rfl ?_; simp only [go_sem, Int.reduceEq, Int.reduceNe, Int.reduceLT, Int.reduceLE, Nat.reduceEqDiff, Nat.reduceAdd, Nat.reduceMul, Nat.reduceLT, Nat.reduceLeDiff, Nat.reduceSub, reduceCtorEq, reduceIte, Int.reduceToNat, beq_self_eq_true, Bool.and_self]
        refine hNr _ (VWp.keep [6,8,9,12,13,55] [40] ?_); simp only [go_sem, Int.reduceEq, Int.reduceNe, Int.reduceLT, Int.reduceLE, Nat.reduceEqDiff, Nat.reduceAdd, Nat.reduceMul, Nat.reduceLT, Nat.reduceLeDiff, Nat.reduceSub, reduceCtorEq, reduceIte, Int.reduceToNat, beq_self_eq_true, Bool.and_self]
        refine vif rfl ⟨(fun ht => by cases ht), fun hf => ?_⟩
        refine vwp_skip (hNq _ ?_)
        refine vwp_seq_k fun Nt hNt => ?_
        have e4 : decide ((T.length : Int) = 4096) = true := decide_eq_true (by omega)
        refine vwp_seq_k fun Nu hNu => vreg tt_ok hF rfl ?_; simp only [go_sem, Int.reduceEq, Int.reduceNe, Int.reduceLT, Int.reduceLE, Nat.reduceEqDiff, Nat.reduceAdd, Nat.reduceMul, Nat.reduceLT, Nat.reduceLeDiff, Nat.reduceSub, reduceCtorEq, reduceIte, Int.reduceToNat, beq_self_eq_true, Bool.and_self]
        simp only [e4, Bool.not_true, go_sem, Int.reduceEq, Int.reduceNe, Int.reduceLT, Int.reduceLE, Nat.reduceEqDiff, Nat.reduceAdd, Nat.reduceMul, Nat.reduceLT, Nat.reduceLeDiff, Nat.reduceSub, reduceCtorEq, reduceIte, Int.reduceToNat, beq_self_eq_true, Bool.and_self]
        refine .inl ⟨_, hsb, ?_⟩; try simp only [go_sem, Int.reduceEq, Int.reduceNe, Int.reduceLT, Int.reduceLE, Nat.reduceEqDiff, Nat.reduceAdd, Nat.reduceMul, Nat.reduceLT, Nat.reduceLeDiff, Nat.reduceSub, reduceCtorEq, reduceIte, Int.reduceToNat, beq_self_eq_true, Bool.and_self]
        refine hNu _ (VWp.keep [6,8,91] [40] ?_); simp only [go_sem, Int.reduceEq, Int.reduceNe, Int.reduceLT, Int.reduceLE, Nat.reduceEqDiff, Nat.reduceAdd, Nat.reduceMul, Nat.reduceLT, Nat.reduceLeDiff, Nat.reduceSub, reduceCtorEq, reduceIte, Int.reduceToNat, beq_self_eq_true, Bool.and_self]
        refine vif rfl ⟨(fun ht => by cases ht), fun hf => ?_⟩
        refine vwp_skip (hNt _ ?_)
        refine vwp_seq_k fun Nw hNw => vreg tt_ok hF rfl ?_; simp only [go_sem, Int.reduceEq, Int.reduceNe, Int.reduceLT, Int.reduceLE, Nat.reduceEqDiff, Nat.reduceAdd, Nat.reduceMul, Nat.reduceLT, Nat.reduceLeDiff, Nat.reduceSub, reduceCtorEq, reduceIte, Int.reduceToNat, beq_self_eq_true, Bool.and_self]
        refine .inl ⟨_, hrd, ?_⟩; try simp only [go_sem, Int.reduceEq, Int.reduceNe, Int.reduceLT, Int.reduceLE, Nat.reduceEqDiff, Nat.reduceAdd, Nat.reduceMul, Nat.reduceLT, Nat.reduceLeDiff, Nat.reduceSub, reduceCtorEq, reduceIte, Int.reduceToNat, beq_self_eq_true, Bool.and_self]
        refine hNw _ (VWp.keepR [6,8,15,16] [40] tt_ok hF rfl fun Nx hNx => ?_); simp only [go_sem, Int.reduceEq, Int.reduceNe, Int.reduceLT, Int.reduceLE, Nat.reduceEqDiff, Nat.reduceAdd, Nat.reduceMul, Nat.reduceLT, Nat.reduceLeDiff, Nat.reduceSub, reduceCtorEq, reduceIte, Int.reduceToNat, beq_self_eq_true, Bool.and_self]
        refine ⟨by omega, ?_⟩
        refine .inl ⟨_, hlo, ?_⟩; try simp only [go_sem, Int.reduceEq, Int.reduceNe, Int.reduceLT, Int.reduceLE, Nat.reduceEqDiff, Nat.reduceAdd, Nat.reduceMul, Nat.reduceLT, Nat.reduceLeDiff, Nat.reduceSub, reduceCtorEq, reduceIte, Int.reduceToNat, beq_self_eq_true, Bool.and_self]
        refine hNx _ (VWp.keepR [6,15,16,19] [] tt_ok hF rfl fun Ny hNy => ?_); simp only [go_sem, Int.reduceEq, Int.reduceNe, Int.reduceLT, Int.reduceLE, Nat.reduceEqDiff, Nat.reduceAdd, Nat.reduceMul, Nat.reduceLT, Nat.reduceLeDiff, Nat.reduceSub, reduceCtorEq, reduceIte, Int.reduceToNat, beq_self_eq_true, Bool.and_self]
        simp only [List.length_map, List.length_replicate, decide_true, go_sem, Int.reduceEq, Int.reduceNe, Int.reduceLT, Int.reduceLE, Nat.reduceEqDiff, Nat.reduceAdd, Nat.reduceMul, Nat.reduceLT, Nat.reduceLeDiff, Nat.reduceSub, reduceCtorEq, reduceIte, Int.reduceToNat, beq_self_eq_true, Bool.and_self]
        refine .inl ⟨_, hwk, ?_⟩; try simp only [go_sem, Int.reduceEq, Int.reduceNe, Int.reduceLT, Int.reduceLE, Nat.reduceEqDiff, Nat.reduceAdd, Nat.reduceMul, Nat.reduceLT, Nat.reduceLeDiff, Nat.reduceSub, reduceCtorEq, reduceIte, Int.reduceToNat, beq_self_eq_true, Bool.and_self]
        refine hNy _ (VWp.keep [4] [] ?_); simp only [go_sem, Int.reduceEq, Int.reduceNe, Int.reduceLT, Int.reduceLE, Nat.reduceEqDiff, Nat.reduceAdd, Nat.reduceMul, Nat.reduceLT, Nat.reduceLeDiff, Nat.reduceSub, reduceCtorEq, reduceIte, Int.reduceToNat, beq_self_eq_true, Bool.and_self]
        refine vwp_ret ?_
        simp only [go_sem, Int.reduceEq, Int.reduceNe, Int.reduceLT, Int.reduceLE, Nat.reduceEqDiff, Nat.reduceAdd, Nat.reduceMul, Nat.reduceLT, Nat.reduceLeDiff, Nat.reduceSub, reduceCtorEq, reduceIte, Int.reduceToNat, beq_self_eq_true, Bool.and_self]
        exact LeV.refl _
end Go.Proofs.YtjedikaidbobdaaGreatDoor

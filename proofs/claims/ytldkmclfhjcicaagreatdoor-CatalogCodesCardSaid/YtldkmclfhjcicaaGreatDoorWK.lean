import Derived.Outline
import Derived.Test.YtldkmclfhjcicaaGreatDoorBw
/- The chapter's examples. -/
-- SIMP: bytesV, beq_self_eq_true, Bool.and_self, diskS
namespace Go.Proofs.YtldkmclfhjcicaaGreatDoor
open Go.RowKit
set_option linter.unusedVariables false
set_option linter.unusedSimpArgs false
theorem Encode_at {c : Cat} {b : Bs} {k : Int} (h : (if validC c then encC c else [], if validC c then (0 : Int) else 1) = (b, k)) : Spec Tryz.prog 13 [catV c] (.tup [bytesV b, .int .i64 k]) := by
  have := Encode_spec c; injection h with h1 h2; rw [h1, h2] at this; exact this
def a3 : Bs := [65, 46, 71, 48, 48, 48, 51, 86, 48, 48]
theorem wa0 : addC (wC 0) (diskS [65, 46, 71, 48, 48, 48, 51, 86, 48, 48]) = (wC 1, [], 0) := by decide +kernel
theorem wa1 : addC (wC 1) (diskS [65, 46, 71, 48, 48, 48, 52, 86, 48, 48]) = (wC 2, [], 0) := by decide +kernel
theorem wa2 : addC (wC 2) (diskS [65, 46, 71, 48, 48, 48, 53, 86, 48, 48]) = (wC 3, [diskS [65, 46, 71, 48, 48, 48, 51, 86, 48, 48]], 0) := by decide +kernel
theorem wa3 : addC (wC 3) (diskS [65]) = (⟨[], []⟩, [], 4) := by decide +kernel
theorem wa4 : addC (wC 3) (diskS [65, 46, 71, 48, 48, 48, 53, 86, 48, 48]) = (⟨[], []⟩, [], 4) := by decide +kernel
theorem wa5 : addC (wC 3) (diskS [65, 46, 71, 48, 48, 48, 50, 86, 48, 48]) = (⟨[], []⟩, [], 6) := by decide +kernel
theorem wr0 : resolveC (wC 3) [65] 0 = ([65, 46, 71, 48, 48, 48, 53, 86, 48, 48], 0) := by decide +kernel
theorem wr1 : resolveC (wC 3) [65] (-1) = ([65, 46, 71, 48, 48, 48, 52, 86, 48, 48], 0) := by decide +kernel
theorem wr3 : resolveC (wC 3) [65] 1 = ([65, 46, 71, 48, 48, 48, 54, 86, 48, 48], 0) := by decide +kernel
theorem we0 : (if validC ⟨[], []⟩ then encC ⟨[], []⟩ else [], if validC ⟨[], []⟩ then (0 : Int) else 1) = ([0, 0, 0, 0], 0) := by decide +kernel
theorem we1 : (if validC ⟨[diskS [66]], []⟩ then encC ⟨[diskS [66]], []⟩ else [], if validC ⟨[diskS [66]], []⟩ then (0 : Int) else 1) = ([0, 1, 1, 66, 5, 2, 86, 49, 0, 0, 0, 0], 0) := by decide +kernel
set_option maxHeartbeats 8000000 in
set_option maxRecDepth 4000 in
theorem works_spec : Spec Tryz.prog 10 [] (.bool true) := by
  refine spec_of tt_ok Tryz.func10 rfl (by decide) Tryz.ntmps10 (congrArg Array.toList Tryz.results10) (by simp) (by decide) rfl rfl (fun F hF => ?_)
  refine vwp_seq_k fun Na hNa => vreg tt_ok hF rfl ?_; simp only [go_sem, Int.reduceEq, Int.reduceNe, Int.reduceLT, Int.reduceLE, Nat.reduceEqDiff, Nat.reduceAdd, Nat.reduceMul, Nat.reduceLT, Nat.reduceLeDiff, Nat.reduceSub, reduceCtorEq, reduceIte, Int.reduceToNat, bytesV, beq_self_eq_true, Bool.and_self, diskS]
  refine hNa _ (VWp.keepR [] [] tt_ok hF rfl fun Nb hNb => ?_); simp only [go_sem, Int.reduceEq, Int.reduceNe, Int.reduceLT, Int.reduceLE, Nat.reduceEqDiff, Nat.reduceAdd, Nat.reduceMul, Nat.reduceLT, Nat.reduceLeDiff, Nat.reduceSub, reduceCtorEq, reduceIte, Int.reduceToNat, bytesV, beq_self_eq_true, Bool.and_self, diskS]
  iterate 6 (refine .inl ⟨_, (by first | exact Name_at (b := true) (by decide +kernel) | exact Name_at (b := false) (by decide +kernel)), ?_⟩; try simp only [go_sem, Int.reduceEq, Int.reduceNe, Int.reduceLT, Int.reduceLE, Nat.reduceEqDiff, Nat.reduceAdd, Nat.reduceMul, Nat.reduceLT, Nat.reduceLeDiff, Nat.reduceSub, reduceCtorEq, reduceIte, Int.reduceToNat, bytesV, beq_self_eq_true, Bool.and_self, diskS])
  refine hNb _ (VWp.keepR [1] [] tt_ok hF rfl fun Nc hNc => ?_); simp only [go_sem, Int.reduceEq, Int.reduceNe, Int.reduceLT, Int.reduceLE, Nat.reduceEqDiff, Nat.reduceAdd, Nat.reduceMul, Nat.reduceLT, Nat.reduceLeDiff, Nat.reduceSub, reduceCtorEq, reduceIte, Int.reduceToNat, bytesV, beq_self_eq_true, Bool.and_self, diskS]
  refine .inl ⟨_, Gen_at w_gen1, ?_⟩; try simp only [go_sem, Int.reduceEq, Int.reduceNe, Int.reduceLT, Int.reduceLE, Nat.reduceEqDiff, Nat.reduceAdd, Nat.reduceMul, Nat.reduceLT, Nat.reduceLeDiff, Nat.reduceSub, reduceCtorEq, reduceIte, Int.reduceToNat, bytesV, beq_self_eq_true, Bool.and_self, diskS]
  refine hNc _ (VWp.keepR [1,2,3] [] tt_ok hF rfl fun Nd hNd => ?_); simp only [go_sem, Int.reduceEq, Int.reduceNe, Int.reduceLT, Int.reduceLE, Nat.reduceEqDiff, Nat.reduceAdd, Nat.reduceMul, Nat.reduceLT, Nat.reduceLeDiff, Nat.reduceSub, reduceCtorEq, reduceIte, Int.reduceToNat, bytesV, beq_self_eq_true, Bool.and_self, diskS]
  refine .inl ⟨_, Gen_at w_gen2, ?_⟩; try simp only [go_sem, Int.reduceEq, Int.reduceNe, Int.reduceLT, Int.reduceLE, Nat.reduceEqDiff, Nat.reduceAdd, Nat.reduceMul, Nat.reduceLT, Nat.reduceLeDiff, Nat.reduceSub, reduceCtorEq, reduceIte, Int.reduceToNat, bytesV, beq_self_eq_true, Bool.and_self, diskS]
  refine hNd _ (VWp.keepR [1,2,3,5] [] tt_ok hF rfl fun Ne hNe => ?_); simp only [go_sem, Int.reduceEq, Int.reduceNe, Int.reduceLT, Int.reduceLE, Nat.reduceEqDiff, Nat.reduceAdd, Nat.reduceMul, Nat.reduceLT, Nat.reduceLeDiff, Nat.reduceSub, reduceCtorEq, reduceIte, Int.reduceToNat, bytesV, beq_self_eq_true, Bool.and_self, diskS]
  refine .inl ⟨_, Gen_at w_gen3, ?_⟩; try simp only [go_sem, Int.reduceEq, Int.reduceNe, Int.reduceLT, Int.reduceLE, Nat.reduceEqDiff, Nat.reduceAdd, Nat.reduceMul, Nat.reduceLT, Nat.reduceLeDiff, Nat.reduceSub, reduceCtorEq, reduceIte, Int.reduceToNat, bytesV, beq_self_eq_true, Bool.and_self, diskS]
  refine hNe _ (VWp.keep [1,2,3,5,6,7] [] ?_); simp only [go_sem, Int.reduceEq, Int.reduceNe, Int.reduceLT, Int.reduceLE, Nat.reduceEqDiff, Nat.reduceAdd, Nat.reduceMul, Nat.reduceLT, Nat.reduceLeDiff, Nat.reduceSub, reduceCtorEq, reduceIte, Int.reduceToNat, bytesV, beq_self_eq_true, Bool.and_self, diskS]
  refine vwp_seq_k fun Nf hNf => ?_
  refine vwp_seq_k fun Ng hNg => vreg tt_ok hF rfl ?_; simp only [go_sem, Int.reduceEq, Int.reduceNe, Int.reduceLT, Int.reduceLE, Nat.reduceEqDiff, Nat.reduceAdd, Nat.reduceMul, Nat.reduceLT, Nat.reduceLeDiff, Nat.reduceSub, reduceCtorEq, reduceIte, Int.reduceToNat, bytesV, beq_self_eq_true, Bool.and_self, diskS]
  refine hNg _ (VWp.keep [83] [] ?_); simp only [go_sem, Int.reduceEq, Int.reduceNe, Int.reduceLT, Int.reduceLE, Nat.reduceEqDiff, Nat.reduceAdd, Nat.reduceMul, Nat.reduceLT, Nat.reduceLeDiff, Nat.reduceSub, reduceCtorEq, reduceIte, Int.reduceToNat, bytesV, beq_self_eq_true, Bool.and_self, diskS]
  refine vif rfl ⟨fun hf => (by cases hf), fun _ => ?_⟩
  refine vwp_skip (hNf _ ?_)
  refine vwp_seq_k fun Ni hNi => vreg tt_ok hF rfl ?_; simp only [go_sem, Int.reduceEq, Int.reduceNe, Int.reduceLT, Int.reduceLE, Nat.reduceEqDiff, Nat.reduceAdd, Nat.reduceMul, Nat.reduceLT, Nat.reduceLeDiff, Nat.reduceSub, reduceCtorEq, reduceIte, Int.reduceToNat, bytesV, beq_self_eq_true, Bool.and_self, diskS]
  refine .inl ⟨_, (Define_at w_define).le (lel1 (agg2 (LeV.nil 4) (LeV.nil 2))), ?_⟩; try simp only [go_sem, Int.reduceEq, Int.reduceNe, Int.reduceLT, Int.reduceLE, Nat.reduceEqDiff, Nat.reduceAdd, Nat.reduceMul, Nat.reduceLT, Nat.reduceLeDiff, Nat.reduceSub, reduceCtorEq, reduceIte, Int.reduceToNat, bytesV, beq_self_eq_true, Bool.and_self, diskS]
  refine hNi _ (VWp.keep [8,9] [8] ?_); simp only [go_sem, Int.reduceEq, Int.reduceNe, Int.reduceLT, Int.reduceLE, Nat.reduceEqDiff, Nat.reduceAdd, Nat.reduceMul, Nat.reduceLT, Nat.reduceLeDiff, Nat.reduceSub, reduceCtorEq, reduceIte, Int.reduceToNat, bytesV, beq_self_eq_true, Bool.and_self, diskS]
  refine vwp_seq_k fun Nj hNj => ?_
  refine vwp_seq_k fun Nk hNk => vreg tt_ok hF rfl ?_; simp only [go_sem, Int.reduceEq, Int.reduceNe, Int.reduceLT, Int.reduceLE, Nat.reduceEqDiff, Nat.reduceAdd, Nat.reduceMul, Nat.reduceLT, Nat.reduceLeDiff, Nat.reduceSub, reduceCtorEq, reduceIte, Int.reduceToNat, bytesV, beq_self_eq_true, Bool.and_self, diskS]
  refine hNk _ (VWp.keep [8,9,89,90] [8] ?_); simp only [go_sem, Int.reduceEq, Int.reduceNe, Int.reduceLT, Int.reduceLE, Nat.reduceEqDiff, Nat.reduceAdd, Nat.reduceMul, Nat.reduceLT, Nat.reduceLeDiff, Nat.reduceSub, reduceCtorEq, reduceIte, Int.reduceToNat, bytesV, beq_self_eq_true, Bool.and_self, diskS]
  refine vwp_block (vloop (fun k : Nat => [(8, .ptr 8 0), (9, .int .i64 0), (89, .agg [.str [65, 46, 71, 48, 48, 48, 51, 86, 48, 48], .str [65, 46, 71, 48, 48, 48, 52, 86, 48, 48], .str [65, 46, 71, 48, 48, 48, 53, 86, 48, 48]]), (90, .int .i64 (k : Int))])
    (fun k => [(8, .box 25 [.sl 4 ((wC k).es.map entC), .sl 2 ((wC k).gs.map grpC)])]) (fun k => k ≤ 3) (fun k => 3 - k) 0 (by omega) (by simp only [go_sem, Int.reduceEq, Int.reduceNe, Int.reduceLT, Int.reduceLE, Nat.reduceEqDiff, Nat.reduceAdd, Nat.reduceMul, Nat.reduceLT, Nat.reduceLeDiff, Nat.reduceSub, reduceCtorEq, reduceIte, Int.reduceToNat, bytesV, beq_self_eq_true, Bool.and_self, diskS]) ?_)
  intro k hk
  refine vwp_seq_k fun Nl hNl => vreg tt_ok hF rfl ?_; simp only [go_sem, Int.reduceEq, Int.reduceNe, Int.reduceLT, Int.reduceLE, Nat.reduceEqDiff, Nat.reduceAdd, Nat.reduceMul, Nat.reduceLT, Nat.reduceLeDiff, Nat.reduceSub, reduceCtorEq, reduceIte, Int.reduceToNat, bytesV, beq_self_eq_true, Bool.and_self, diskS]
  refine hNl _ (VWp.keep [8,9,89,90,91] [8] ?_); simp only [go_sem, Int.reduceEq, Int.reduceNe, Int.reduceLT, Int.reduceLE, Nat.reduceEqDiff, Nat.reduceAdd, Nat.reduceMul, Nat.reduceLT, Nat.reduceLeDiff, Nat.reduceSub, reduceCtorEq, reduceIte, Int.reduceToNat, bytesV, beq_self_eq_true, Bool.and_self, diskS]
  refine vwp_seq_k fun Nm hNm => ?_
  refine vif rfl ⟨fun ht => ?_, fun hf => ?_⟩
  · have hlt : k < 3 := by have := of_decide_eq_true ht; omega
    refine vwp_skip (hNm _ ?_)
    refine vwp_seq_k fun Nn hNn => ?_
    refine vwp_block ?_
    have hk3 : k = 0 ∨ k = 1 ∨ k = 2 := by omega
    rcases hk3 with rfl | rfl | rfl
    all_goals
      refine vwp_seq_k fun No hNo => vreg tt_ok hF rfl ?_; simp only [go_sem, Int.reduceEq, Int.reduceNe, Int.reduceLT, Int.reduceLE, Nat.reduceEqDiff, Nat.reduceAdd, Nat.reduceMul, Nat.reduceLT, Nat.reduceLeDiff, Nat.reduceSub, reduceCtorEq, reduceIte, Int.reduceToNat, bytesV, beq_self_eq_true, Bool.and_self, diskS]
      refine hNo _ (VWp.keep [8,9,10,11,89,90] [8] ?_); simp only [go_sem, Int.reduceEq, Int.reduceNe, Int.reduceLT, Int.reduceLE, Nat.reduceEqDiff, Nat.reduceAdd, Nat.reduceMul, Nat.reduceLT, Nat.reduceLeDiff, Nat.reduceSub, reduceCtorEq, reduceIte, Int.reduceToNat, bytesV, beq_self_eq_true, Bool.and_self, diskS]
      refine vwp_seq_k fun Np hNp => vregd tt_ok mixed hF rfl (by kernel_rfl) (by kernel_rfl) ?_; simp only [go_sem, Int.reduceEq, Int.reduceNe, Int.reduceLT, Int.reduceLE, Nat.reduceEqDiff, Nat.reduceAdd, Nat.reduceMul, Nat.reduceLT, Nat.reduceLeDiff, Nat.reduceSub, reduceCtorEq, reduceIte, Int.reduceToNat, bytesV, beq_self_eq_true, Bool.and_self, diskS]
      refine .inl ⟨_, disk_spec _, ?_⟩; try simp only [go_sem, Int.reduceEq, Int.reduceNe, Int.reduceLT, Int.reduceLE, Nat.reduceEqDiff, Nat.reduceAdd, Nat.reduceMul, Nat.reduceLT, Nat.reduceLeDiff, Nat.reduceSub, reduceCtorEq, reduceIte, Int.reduceToNat, bytesV, beq_self_eq_true, Bool.and_self, diskS]
      refine .inl ⟨_, (by first | exact Add_at wa0 | exact Add_at wa1 | exact Add_at wa2), ?_⟩; try simp only [go_sem, Int.reduceEq, Int.reduceNe, Int.reduceLT, Int.reduceLE, Nat.reduceEqDiff, Nat.reduceAdd, Nat.reduceMul, Nat.reduceLT, Nat.reduceLeDiff, Nat.reduceSub, reduceCtorEq, reduceIte, Int.reduceToNat, bytesV, beq_self_eq_true, Bool.and_self, diskS]
      refine hNp _ (VWp.keep [8,9,10,12,13,14,89,90] [8,12] ?_); simp only [go_sem, Int.reduceEq, Int.reduceNe, Int.reduceLT, Int.reduceLE, Nat.reduceEqDiff, Nat.reduceAdd, Nat.reduceMul, Nat.reduceLT, Nat.reduceLeDiff, Nat.reduceSub, reduceCtorEq, reduceIte, Int.reduceToNat, bytesV, beq_self_eq_true, Bool.and_self, diskS]
      refine vwp_seq_k fun Nq hNq => ?_
      refine vwp_seq_k fun Nr hNr => vregd tt_ok mixed hF rfl (by kernel_rfl) (by kernel_rfl) ?_; simp only [go_sem, Int.reduceEq, Int.reduceNe, Int.reduceLT, Int.reduceLE, Nat.reduceEqDiff, Nat.reduceAdd, Nat.reduceMul, Nat.reduceLT, Nat.reduceLeDiff, Nat.reduceSub, reduceCtorEq, reduceIte, Int.reduceToNat, bytesV, beq_self_eq_true, Bool.and_self, diskS]
      try (refine .inl ⟨_, disk_spec [65, 46, 71, 48, 48, 48, 51, 86, 48, 48], ?_⟩; simp only [go_sem, Int.reduceEq, Int.reduceNe, Int.reduceLT, Int.reduceLE, Nat.reduceEqDiff, Nat.reduceAdd, Nat.reduceMul, Nat.reduceLT, Nat.reduceLeDiff, Nat.reduceSub, reduceCtorEq, reduceIte, Int.reduceToNat, bytesV, beq_self_eq_true, Bool.and_self, diskS])
      refine hNr _ (VWp.keep [8,9,12,89,90,127] [8,12] ?_); simp only [go_sem, Int.reduceEq, Int.reduceNe, Int.reduceLT, Int.reduceLE, Nat.reduceEqDiff, Nat.reduceAdd, Nat.reduceMul, Nat.reduceLT, Nat.reduceLeDiff, Nat.reduceSub, reduceCtorEq, reduceIte, Int.reduceToNat, bytesV, beq_self_eq_true, Bool.and_self, diskS]
      refine vif rfl ⟨fun hf => (by cases hf), fun _ => ?_⟩
      refine vwp_skip (hNq _ ?_)
      refine vreg tt_ok hF rfl ?_; simp only [go_sem, Int.reduceEq, Int.reduceNe, Int.reduceLT, Int.reduceLE, Nat.reduceEqDiff, Nat.reduceAdd, Nat.reduceMul, Nat.reduceLT, Nat.reduceLeDiff, Nat.reduceSub, reduceCtorEq, reduceIte, Int.reduceToNat, bytesV, beq_self_eq_true, Bool.and_self, diskS]
      refine hNn _ (VWp.keep [8,9,89,90] [8] ?_); simp only [go_sem, Int.reduceEq, Int.reduceNe, Int.reduceLT, Int.reduceLE, Nat.reduceEqDiff, Nat.reduceAdd, Nat.reduceMul, Nat.reduceLT, Nat.reduceLeDiff, Nat.reduceSub, reduceCtorEq, reduceIte, Int.reduceToNat, bytesV, beq_self_eq_true, Bool.and_self, diskS]
      refine vreg tt_ok hF rfl ?_; simp only [go_sem, Int.reduceEq, Int.reduceNe, Int.reduceLT, Int.reduceLE, Nat.reduceEqDiff, Nat.reduceAdd, Nat.reduceMul, Nat.reduceLT, Nat.reduceLeDiff, Nat.reduceSub, reduceCtorEq, reduceIte, Int.reduceToNat, bytesV, beq_self_eq_true, Bool.and_self, diskS]
      rw [wrap_i64 (by omega) (by omega)]
      first | exact ⟨1, by omega, by omega, by simp⟩ | exact ⟨2, by omega, by omega, by simp⟩ | exact ⟨3, by omega, by omega, by simp⟩
  · have hk3 : k = 3 := by have : (3 : Int) ≤ k := by simpa using hf
                           omega
    subst hk3
    refine vwp_exit ?_
    simp only [go_sem, Int.reduceEq, Int.reduceNe, Int.reduceLT, Int.reduceLE, Nat.reduceEqDiff, Nat.reduceAdd, Nat.reduceMul, Nat.reduceLT, Nat.reduceLeDiff, Nat.reduceSub, reduceCtorEq, reduceIte, Int.reduceToNat, bytesV, beq_self_eq_true, Bool.and_self, diskS]
    refine hNj _ (VWp.keepR [8] [8] tt_ok hF rfl fun Nt hNt => ?_); simp only [go_sem, Int.reduceEq, Int.reduceNe, Int.reduceLT, Int.reduceLE, Nat.reduceEqDiff, Nat.reduceAdd, Nat.reduceMul, Nat.reduceLT, Nat.reduceLeDiff, Nat.reduceSub, reduceCtorEq, reduceIte, Int.reduceToNat, bytesV, beq_self_eq_true, Bool.and_self, diskS]
    iterate 4 (refine .inl ⟨_, (by first | exact Resolves_at wr0 (by decide) (by decide) | exact Resolves_at wr1 (by decide) (by decide) | exact Resolves_at w_res2 (by decide) (by decide) | exact Resolves_at wr3 (by decide) (by decide)), ?_⟩; try simp only [go_sem, Int.reduceEq, Int.reduceNe, Int.reduceLT, Int.reduceLE, Nat.reduceEqDiff, Nat.reduceAdd, Nat.reduceMul, Nat.reduceLT, Nat.reduceLeDiff, Nat.reduceSub, reduceCtorEq, reduceIte, Int.reduceToNat, bytesV, beq_self_eq_true, Bool.and_self, diskS])
    refine hNt _ (VWp.keep [8,15] [8] ?_); simp only [go_sem, Int.reduceEq, Int.reduceNe, Int.reduceLT, Int.reduceLE, Nat.reduceEqDiff, Nat.reduceAdd, Nat.reduceMul, Nat.reduceLT, Nat.reduceLeDiff, Nat.reduceSub, reduceCtorEq, reduceIte, Int.reduceToNat, bytesV, beq_self_eq_true, Bool.and_self, diskS]
    refine vwp_seq_k fun Nu hNu => vregd tt_ok mixed hF rfl (by kernel_rfl) (by kernel_rfl) ?_; simp only [go_sem, Int.reduceEq, Int.reduceNe, Int.reduceLT, Int.reduceLE, Nat.reduceEqDiff, Nat.reduceAdd, Nat.reduceMul, Nat.reduceLT, Nat.reduceLeDiff, Nat.reduceSub, reduceCtorEq, reduceIte, Int.reduceToNat, bytesV, beq_self_eq_true, Bool.and_self, diskS]
    refine .inl ⟨_, disk_spec _, ?_⟩; try simp only [go_sem, Int.reduceEq, Int.reduceNe, Int.reduceLT, Int.reduceLE, Nat.reduceEqDiff, Nat.reduceAdd, Nat.reduceMul, Nat.reduceLT, Nat.reduceLeDiff, Nat.reduceSub, reduceCtorEq, reduceIte, Int.reduceToNat, bytesV, beq_self_eq_true, Bool.and_self, diskS]
    refine .inl ⟨_, Add_at wa3, ?_⟩; try simp only [go_sem, Int.reduceEq, Int.reduceNe, Int.reduceLT, Int.reduceLE, Nat.reduceEqDiff, Nat.reduceAdd, Nat.reduceMul, Nat.reduceLT, Nat.reduceLeDiff, Nat.reduceSub, reduceCtorEq, reduceIte, Int.reduceToNat, bytesV, beq_self_eq_true, Bool.and_self, diskS]
    refine hNu _ (VWp.keep [8,15,18] [8] ?_); simp only [go_sem, Int.reduceEq, Int.reduceNe, Int.reduceLT, Int.reduceLE, Nat.reduceEqDiff, Nat.reduceAdd, Nat.reduceMul, Nat.reduceLT, Nat.reduceLeDiff, Nat.reduceSub, reduceCtorEq, reduceIte, Int.reduceToNat, bytesV, beq_self_eq_true, Bool.and_self, diskS]
    refine vwp_seq_k fun Nv hNv => vregd tt_ok mixed hF rfl (by kernel_rfl) (by kernel_rfl) ?_; simp only [go_sem, Int.reduceEq, Int.reduceNe, Int.reduceLT, Int.reduceLE, Nat.reduceEqDiff, Nat.reduceAdd, Nat.reduceMul, Nat.reduceLT, Nat.reduceLeDiff, Nat.reduceSub, reduceCtorEq, reduceIte, Int.reduceToNat, bytesV, beq_self_eq_true, Bool.and_self, diskS]
    refine .inl ⟨_, disk_spec _, ?_⟩; try simp only [go_sem, Int.reduceEq, Int.reduceNe, Int.reduceLT, Int.reduceLE, Nat.reduceEqDiff, Nat.reduceAdd, Nat.reduceMul, Nat.reduceLT, Nat.reduceLeDiff, Nat.reduceSub, reduceCtorEq, reduceIte, Int.reduceToNat, bytesV, beq_self_eq_true, Bool.and_self, diskS]
    refine .inl ⟨_, Add_at wa4, ?_⟩; try simp only [go_sem, Int.reduceEq, Int.reduceNe, Int.reduceLT, Int.reduceLE, Nat.reduceEqDiff, Nat.reduceAdd, Nat.reduceMul, Nat.reduceLT, Nat.reduceLeDiff, Nat.reduceSub, reduceCtorEq, reduceIte, Int.reduceToNat, bytesV, beq_self_eq_true, Bool.and_self, diskS]
    refine hNv _ (VWp.keep [8,15,18,21] [8] ?_); simp only [go_sem, Int.reduceEq, Int.reduceNe, Int.reduceLT, Int.reduceLE, Nat.reduceEqDiff, Nat.reduceAdd, Nat.reduceMul, Nat.reduceLT, Nat.reduceLeDiff, Nat.reduceSub, reduceCtorEq, reduceIte, Int.reduceToNat, bytesV, beq_self_eq_true, Bool.and_self, diskS]
    refine vwp_seq_k fun Nw hNw => vregd tt_ok mixed hF rfl (by kernel_rfl) (by kernel_rfl) ?_; simp only [go_sem, Int.reduceEq, Int.reduceNe, Int.reduceLT, Int.reduceLE, Nat.reduceEqDiff, Nat.reduceAdd, Nat.reduceMul, Nat.reduceLT, Nat.reduceLeDiff, Nat.reduceSub, reduceCtorEq, reduceIte, Int.reduceToNat, bytesV, beq_self_eq_true, Bool.and_self, diskS]
    refine .inl ⟨_, disk_spec _, ?_⟩; try simp only [go_sem, Int.reduceEq, Int.reduceNe, Int.reduceLT, Int.reduceLE, Nat.reduceEqDiff, Nat.reduceAdd, Nat.reduceMul, Nat.reduceLT, Nat.reduceLeDiff, Nat.reduceSub, reduceCtorEq, reduceIte, Int.reduceToNat, bytesV, beq_self_eq_true, Bool.and_self, diskS]
    refine .inl ⟨_, Add_at wa5, ?_⟩; try simp only [go_sem, Int.reduceEq, Int.reduceNe, Int.reduceLT, Int.reduceLE, Nat.reduceEqDiff, Nat.reduceAdd, Nat.reduceMul, Nat.reduceLT, Nat.reduceLeDiff, Nat.reduceSub, reduceCtorEq, reduceIte, Int.reduceToNat, bytesV, beq_self_eq_true, Bool.and_self, diskS]
    refine hNw _ (VWp.keepR [15,18,21,24] [] tt_ok hF rfl fun Nx hNx => ?_); simp only [go_sem, Int.reduceEq, Int.reduceNe, Int.reduceLT, Int.reduceLE, Nat.reduceEqDiff, Nat.reduceAdd, Nat.reduceMul, Nat.reduceLT, Nat.reduceLeDiff, Nat.reduceSub, reduceCtorEq, reduceIte, Int.reduceToNat, bytesV, beq_self_eq_true, Bool.and_self, diskS]
    refine .inl ⟨_, (Encode_at we0).le (lel1 (agg2 (LeV.nil 4) (LeV.nil 2))), ?_⟩; try simp only [go_sem, Int.reduceEq, Int.reduceNe, Int.reduceLT, Int.reduceLE, Nat.reduceEqDiff, Nat.reduceAdd, Nat.reduceMul, Nat.reduceLT, Nat.reduceLeDiff, Nat.reduceSub, reduceCtorEq, reduceIte, Int.reduceToNat, bytesV, beq_self_eq_true, Bool.and_self, diskS]
    refine hNx _ (VWp.keepR [15,18,21,24,25,26] [] tt_ok hF rfl fun Ny hNy => ?_); simp only [go_sem, Int.reduceEq, Int.reduceNe, Int.reduceLT, Int.reduceLE, Nat.reduceEqDiff, Nat.reduceAdd, Nat.reduceMul, Nat.reduceLT, Nat.reduceLeDiff, Nat.reduceSub, reduceCtorEq, reduceIte, Int.reduceToNat, bytesV, beq_self_eq_true, Bool.and_self, diskS]
    refine .inl ⟨_, disk_spec _, ?_⟩; try simp only [go_sem, Int.reduceEq, Int.reduceNe, Int.reduceLT, Int.reduceLE, Nat.reduceEqDiff, Nat.reduceAdd, Nat.reduceMul, Nat.reduceLT, Nat.reduceLeDiff, Nat.reduceSub, reduceCtorEq, reduceIte, Int.reduceToNat, bytesV, beq_self_eq_true, Bool.and_self, diskS]
    refine .inl ⟨_, (Encode_at we1).le (lel1 (agg2 (LeV.refl _) (LeV.nil 2))), ?_⟩; try simp only [go_sem, Int.reduceEq, Int.reduceNe, Int.reduceLT, Int.reduceLE, Nat.reduceEqDiff, Nat.reduceAdd, Nat.reduceMul, Nat.reduceLT, Nat.reduceLeDiff, Nat.reduceSub, reduceCtorEq, reduceIte, Int.reduceToNat, bytesV, beq_self_eq_true, Bool.and_self, diskS]
    refine hNy _ (VWp.keepR [15,18,21,24,25,26,27,28] [] tt_ok hF rfl fun Nz hNz => ?_); simp only [go_sem, Int.reduceEq, Int.reduceNe, Int.reduceLT, Int.reduceLE, Nat.reduceEqDiff, Nat.reduceAdd, Nat.reduceMul, Nat.reduceLT, Nat.reduceLeDiff, Nat.reduceSub, reduceCtorEq, reduceIte, Int.reduceToNat, bytesV, beq_self_eq_true, Bool.and_self, diskS]
    refine hNz _ (VWp.keepR [15,18,21,24,29] [] tt_ok hF rfl fun Naa hNaa => ?_); simp only [go_sem, Int.reduceEq, Int.reduceNe, Int.reduceLT, Int.reduceLE, Nat.reduceEqDiff, Nat.reduceAdd, Nat.reduceMul, Nat.reduceLT, Nat.reduceLeDiff, Nat.reduceSub, reduceCtorEq, reduceIte, Int.reduceToNat, bytesV, beq_self_eq_true, Bool.and_self, diskS]
    refine hNaa _ (VWp.keep [0] [] ?_); simp only [go_sem, Int.reduceEq, Int.reduceNe, Int.reduceLT, Int.reduceLE, Nat.reduceEqDiff, Nat.reduceAdd, Nat.reduceMul, Nat.reduceLT, Nat.reduceLeDiff, Nat.reduceSub, reduceCtorEq, reduceIte, Int.reduceToNat, bytesV, beq_self_eq_true, Bool.and_self, diskS]
    refine vwp_ret ?_
    simp only [go_sem, Int.reduceEq, Int.reduceNe, Int.reduceLT, Int.reduceLE, Nat.reduceEqDiff, Nat.reduceAdd, Nat.reduceMul, Nat.reduceLT, Nat.reduceLeDiff, Nat.reduceSub, reduceCtorEq, reduceIte, Int.reduceToNat, bytesV, beq_self_eq_true, Bool.and_self, diskS]
    exact LeV.refl _
end Go.Proofs.YtldkmclfhjcicaaGreatDoor

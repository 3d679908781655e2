import Derived.Outline
import Derived.Test.YtjedikaidbobdaaGreatDoorUH
/- Layers 22 and 26: records out of blocks; the volume label. -/
-- SIMP: beq_self_eq_true, Bool.and_self, List.length_append
namespace Go.Proofs.YtjedikaidbobdaaGreatDoor
open Go.RowKit
set_option linter.unusedVariables false
set_option linter.unusedSimpArgs false
set_option maxHeartbeats 4000000 in
set_option maxRecDepth 4000 in
theorem Clone_spec (a : Bs) (h0 : a ≠ []) (ha : a.length ≤ 1000000) : Spec Tryz.prog 37 [u8V a] (u8V a) := by
  unfold u8V
  have hne : a.map u8c ≠ [] := by simpa using h0
  refine spec_of tt_ok Tryz.func37 rfl (by decide) Tryz.ntmps37 (congrArg Array.toList Tryz.results37) (by simp) (by decide) rfl rfl (fun F hF => ?_)
  refine vwp_seq_k fun Na hNa => vreg tt_ok hF rfl ?_; simp only [go_sem, Int.reduceEq, Int.reduceNe, Int.reduceLT, Int.reduceLE, Nat.reduceEqDiff, Nat.reduceAdd, Nat.reduceMul, Nat.reduceLT, Nat.reduceLeDiff, Nat.reduceSub, reduceCtorEq, reduceIte, Int.reduceToNat, beq_self_eq_true, Bool.and_self, List.length_append]
  refine hNa _ (VWp.keep [0] [] ?_); simp only [go_sem, Int.reduceEq, Int.reduceNe, Int.reduceLT, Int.reduceLE, Nat.reduceEqDiff, Nat.reduceAdd, Nat.reduceMul, Nat.reduceLT, Nat.reduceLeDiff, Nat.reduceSub, reduceCtorEq, reduceIte, Int.reduceToNat, beq_self_eq_true, Bool.and_self, List.length_append]
  refine vwp_seq_k fun Nb hNb => ?_
  refine vwp_seq_k fun Nc hNc => vreg tt_ok hF rfl ?_; simp only [go_sem, Int.reduceEq, Int.reduceNe, Int.reduceLT, Int.reduceLE, Nat.reduceEqDiff, Nat.reduceAdd, Nat.reduceMul, Nat.reduceLT, Nat.reduceLeDiff, Nat.reduceSub, reduceCtorEq, reduceIte, Int.reduceToNat, beq_self_eq_true, Bool.and_self, List.length_append]
  refine ⟨hne, ?_⟩
  try simp only [go_sem, Int.reduceEq, Int.reduceNe, Int.reduceLT, Int.reduceLE, Nat.reduceEqDiff, Nat.reduceAdd, Nat.reduceMul, Nat.reduceLT, Nat.reduceLeDiff, Nat.reduceSub, reduceCtorEq, reduceIte, Int.reduceToNat, beq_self_eq_true, Bool.and_self, List.length_append]
  refine hNc _ (VWp.keep [0,4] [] ?_); simp only [go_sem, Int.reduceEq, Int.reduceNe, Int.reduceLT, Int.reduceLE, Nat.reduceEqDiff, Nat.reduceAdd, Nat.reduceMul, Nat.reduceLT, Nat.reduceLeDiff, Nat.reduceSub, reduceCtorEq, reduceIte, Int.reduceToNat, beq_self_eq_true, Bool.and_self, List.length_append]
  refine vif rfl ⟨(fun ht => by cases ht), fun hf => ?_⟩
  refine vwp_skip (hNb _ ?_)
  refine vwp_seq_k fun Ne hNe => vreg tt_ok hF rfl ?_; simp only [go_sem, Int.reduceEq, Int.reduceNe, Int.reduceLT, Int.reduceLE, Nat.reduceEqDiff, Nat.reduceAdd, Nat.reduceMul, Nat.reduceLT, Nat.reduceLeDiff, Nat.reduceSub, reduceCtorEq, reduceIte, Int.reduceToNat, beq_self_eq_true, Bool.and_self, List.length_append]
  refine ⟨by first | omega | (simp; omega), ?_⟩
  refine hNe _ (VWp.keep [2] [5] ?_); simp only [go_sem, Int.reduceEq, Int.reduceNe, Int.reduceLT, Int.reduceLE, Nat.reduceEqDiff, Nat.reduceAdd, Nat.reduceMul, Nat.reduceLT, Nat.reduceLeDiff, Nat.reduceSub, reduceCtorEq, reduceIte, Int.reduceToNat, beq_self_eq_true, Bool.and_self, List.length_append]
  refine vwp_ret ?_
  simp only [go_sem, Int.reduceEq, Int.reduceNe, Int.reduceLT, Int.reduceLE, Nat.reduceEqDiff, Nat.reduceAdd, Nat.reduceMul, Nat.reduceLT, Nat.reduceLeDiff, Nat.reduceSub, reduceCtorEq, reduceIte, Int.reduceToNat, beq_self_eq_true, Bool.and_self, List.length_append]
  exact LeV.of_eq (by simp)
theorem or_bytes (x y : Nat) (hx : x < 256) (hy : y < 256) : IntKind.i64.wrap (((BitVec.ofInt IntKind.i64.bits (IntKind.i64.wrap ((x : Int) * 2 ^ min (Int.toNat 8) IntKind.i64.bits)) ||| BitVec.ofInt IntKind.i64.bits (y : Int)).toNat : Nat) : Int) = ((256 * x + y : Nat) : Int) := by
  have e1 : IntKind.i64.wrap ((x : Int) * 2 ^ min (Int.toNat 8) IntKind.i64.bits) = ((2 ^ 8 * x : Nat) : Int) := by
    rw [show min (Int.toNat 8) IntKind.i64.bits = 8 by rfl, wrap_i64 (by omega) (by omega)]; omega
  have e2 : (BitVec.ofInt IntKind.i64.bits ((2 ^ 8 * x : Nat) : Int) ||| BitVec.ofInt IntKind.i64.bits (y : Int)).toNat = 2 ^ 8 * x + y := by
    rw [BitVec.toNat_or, BitVec.toNat_ofInt, BitVec.toNat_ofInt, show IntKind.i64.bits = 64 from rfl]
    rw [show (((2 ^ 8 * x : Nat) : Int) % (2 ^ 64 : Nat)).toNat = 2 ^ 8 * x by omega, show ((y : Int) % (2 ^ 64 : Nat)).toNat = y by omega]
    exact (Nat.two_pow_add_eq_or_of_lt (by omega) x).symm
  rw [e1, e2, wrap_i64 (by omega) (by omega)]
set_option maxHeartbeats 4000000 in
set_option maxRecDepth 4000 in
theorem described_spec (n : Nat) (hn : n < 65536) (r : Bs) (hr : r.length ≤ 1000000) : Spec Tryz.prog 105 [u8V (desT n ++ r)] (.int .i64 (n : Int)) := by
  unfold u8V
  rw [List.map_append, des_v]
  have hl : decide (((r.length + 1 + 1 + 1 + 1 : Nat) : Int) < 4) = false := decide_eq_false (by omega)
  refine spec_of tt_ok Tryz.func105 rfl (by decide) Tryz.ntmps105 (congrArg Array.toList Tryz.results105) (by simp) (by decide) rfl rfl (fun F hF => ?_)
  refine vwp_seq_k fun Na hNa => vreg tt_ok hF rfl ?_; simp only [go_sem, Int.reduceEq, Int.reduceNe, Int.reduceLT, Int.reduceLE, Nat.reduceEqDiff, Nat.reduceAdd, Nat.reduceMul, Nat.reduceLT, Nat.reduceLeDiff, Nat.reduceSub, reduceCtorEq, reduceIte, Int.reduceToNat, beq_self_eq_true, Bool.and_self, List.length_append]
  refine hNa _ (VWp.keep [0] [] ?_); simp only [go_sem, Int.reduceEq, Int.reduceNe, Int.reduceLT, Int.reduceLE, Nat.reduceEqDiff, Nat.reduceAdd, Nat.reduceMul, Nat.reduceLT, Nat.reduceLeDiff, Nat.reduceSub, reduceCtorEq, reduceIte, Int.reduceToNat, beq_self_eq_true, Bool.and_self, List.length_append]
  refine vwp_seq_k fun Nb hNb => ?_
  refine vwp_seq_k fun Nc hNc => vreg tt_ok hF rfl ?_; simp only [go_sem, Int.reduceEq, Int.reduceNe, Int.reduceLT, Int.reduceLE, Nat.reduceEqDiff, Nat.reduceAdd, Nat.reduceMul, Nat.reduceLT, Nat.reduceLeDiff, Nat.reduceSub, reduceCtorEq, reduceIte, Int.reduceToNat, beq_self_eq_true, Bool.and_self, List.length_append]
  simp only [hl, decide_true, Bool.not_true, go_sem, Int.reduceEq, Int.reduceNe, Int.reduceLT, Int.reduceLE, Nat.reduceEqDiff, Nat.reduceAdd, Nat.reduceMul, Nat.reduceLT, Nat.reduceLeDiff, Nat.reduceSub, reduceCtorEq, reduceIte, Int.reduceToNat, beq_self_eq_true, Bool.and_self, List.length_append]
  refine ⟨by omega, ?_⟩
  try simp only [decide_true, Bool.not_true, go_sem, Int.reduceEq, Int.reduceNe, Int.reduceLT, Int.reduceLE, Nat.reduceEqDiff, Nat.reduceAdd, Nat.reduceMul, Nat.reduceLT, Nat.reduceLeDiff, Nat.reduceSub, reduceCtorEq, reduceIte, Int.reduceToNat, beq_self_eq_true, Bool.and_self, List.length_append]
  refine ⟨by omega, ?_⟩
  refine hNc _ (VWp.keep [0,17] [] ?_); simp only [go_sem, Int.reduceEq, Int.reduceNe, Int.reduceLT, Int.reduceLE, Nat.reduceEqDiff, Nat.reduceAdd, Nat.reduceMul, Nat.reduceLT, Nat.reduceLeDiff, Nat.reduceSub, reduceCtorEq, reduceIte, Int.reduceToNat, beq_self_eq_true, Bool.and_self, List.length_append]
  refine vif rfl ⟨(fun ht => by cases ht), fun hf => ?_⟩
  refine vwp_skip (hNb _ ?_)
  refine vwp_seq_k fun Ne hNe => vregd tt_ok mixed hF rfl (by kernel_rfl) (by kernel_rfl) ?_; simp only [go_sem, Int.reduceEq, Int.reduceNe, Int.reduceLT, Int.reduceLE, Nat.reduceEqDiff, Nat.reduceAdd, Nat.reduceMul, Nat.reduceLT, Nat.reduceLeDiff, Nat.reduceSub, reduceCtorEq, reduceIte, Int.reduceToNat, beq_self_eq_true, Bool.and_self, List.length_append]
  refine ⟨by omega, ?_⟩
  try simp only [go_sem, Int.reduceEq, Int.reduceNe, Int.reduceLT, Int.reduceLE, Nat.reduceEqDiff, Nat.reduceAdd, Nat.reduceMul, Nat.reduceLT, Nat.reduceLeDiff, Nat.reduceSub, reduceCtorEq, reduceIte, Int.reduceToNat, beq_self_eq_true, Bool.and_self, List.length_append]
  refine ⟨by omega, ?_⟩
  refine hNe _ (VWp.keep [2] [] ?_); simp only [go_sem, Int.reduceEq, Int.reduceNe, Int.reduceLT, Int.reduceLE, Nat.reduceEqDiff, Nat.reduceAdd, Nat.reduceMul, Nat.reduceLT, Nat.reduceLeDiff, Nat.reduceSub, reduceCtorEq, reduceIte, Int.reduceToNat, beq_self_eq_true, Bool.and_self, List.length_append]
  refine vwp_ret ?_
  simp only [go_sem, Int.reduceEq, Int.reduceNe, Int.reduceLT, Int.reduceLE, Nat.reduceEqDiff, Nat.reduceAdd, Nat.reduceMul, Nat.reduceLT, Nat.reduceLeDiff, Nat.reduceSub, reduceCtorEq, reduceIte, Int.reduceToNat, beq_self_eq_true, Bool.and_self, List.length_append]
  rw [wrap_i64 (n := ((n / 256 % 256 : Nat) : Int)) (by omega) (by omega), wrap_i64 (n := ((n % 256 : Nat) : Int)) (by omega) (by omega)]
  refine LeV.of_eq (congrArg _ ((or_bytes (n / 256 % 256) (n % 256) (by omega) (by omega)).trans ?_))
  omega
theorem body_drop (d : DcbT) (g : List Tb) (k : Nat) (hk : k < g.length) : bodyT d (g.drop k) = (if d.fmt = 2 then desT (g[k].length + 4) ++ g[k] else g[k]) ++ bodyT d (g.drop (k + 1)) := by
  rw [List.drop_eq_getElem_cons hk]; rfl
theorem body_le (d : DcbT) (g : List Tb) : (bodyT d g).length ≤ (encG d g).length := by
  unfold encG; split
  · simp
  · exact Nat.le_refl _
theorem body_sub (d : DcbT) (g : List Tb) (k : Nat) : (bodyT d (g.drop k)).length ≤ (bodyT d g).length := by
  have h := body_app d (g.take k) (g.drop k)
  rw [List.take_append_drop] at h
  rw [h]; simp
theorem body_ge (d : DcbT) : ∀ g : List Tb, (∀ r ∈ g, r ≠ []) → g.length ≤ (bodyT d g).length
  | [], _ => Nat.le_refl _
  | r :: g, h => by
    have ih := body_ge d g (fun x hx => h x (List.mem_cons_of_mem _ hx))
    have hr : 0 < r.length := List.length_pos_iff.2 (h r List.mem_cons_self)
    rw [bodyT, List.length_append, List.length_cons]
    split <;> simp <;> omega
set_option maxHeartbeats 16000000 in
set_option maxRecDepth 4000 in
theorem split_B (d : DcbT) (h : chkT d = true) (g : List Tb) (hg : GrpT d g) (rows : List (List V)) (hr : rows.length ≤ 100000) :
    SpecB Tryz.prog 84 [dcbV d, u8V (encG d g), .own 1000000 rows.length] [(1000000, .arr 1 45 rows)] (.tup [.own 1000000 (rows.length + g.length), .bool true]) [(1000000, .arr 1 45 (rows ++ g.map blkR))] := by
  obtain ⟨o1, o2, b1, b2, hlens, _⟩ := chk_parts h
  have hEle := hg.le
  have hbl := body_le d g
  have hElen : (encG d g).length ≤ 1024 := by omega
  have hgl := body_ge d g (fun r hr => fit_ne h (hg.fit r hr))
  unfold dcbV u8V
  simp only [dcbC]
  refine specB_of tt_ok Tryz.func84 rfl (by decide) Tryz.ntmps84 (congrArg Array.toList Tryz.results84) (by simp) (by decide) rfl (by simp only [go_sem, Int.reduceEq, Int.reduceNe, Int.reduceLT, Int.reduceLE, Nat.reduceEqDiff, Nat.reduceAdd, Nat.reduceMul, Nat.reduceLT, Nat.reduceLeDiff, Nat.reduceSub, reduceCtorEq, reduceIte, Int.reduceToNat, beq_self_eq_true, Bool.and_self, List.length_append]) (fun F hF => ?_)
  refine vwp_seq_k fun Na hNa => vreg tt_ok hF rfl ?_; simp only [go_sem, Int.reduceEq, Int.reduceNe, Int.reduceLT, Int.reduceLE, Nat.reduceEqDiff, Nat.reduceAdd, Nat.reduceMul, Nat.reduceLT, Nat.reduceLeDiff, Nat.reduceSub, reduceCtorEq, reduceIte, Int.reduceToNat, beq_self_eq_true, Bool.and_self, List.length_append]
  refine hNa _ (VWp.keep [1,2,3] [3,1000000] ?_); simp only [go_sem, Int.reduceEq, Int.reduceNe, Int.reduceLT, Int.reduceLE, Nat.reduceEqDiff, Nat.reduceAdd, Nat.reduceMul, Nat.reduceLT, Nat.reduceLeDiff, Nat.reduceSub, reduceCtorEq, reduceIte, Int.reduceToNat, beq_self_eq_true, Bool.and_self, List.length_append]
  refine vwp_seq_k fun Nb hNb => ?_
  refine vwp_seq_k fun Nc hNc => vreg tt_ok hF rfl ?_; simp only [go_sem, Int.reduceEq, Int.reduceNe, Int.reduceLT, Int.reduceLE, Nat.reduceEqDiff, Nat.reduceAdd, Nat.reduceMul, Nat.reduceLT, Nat.reduceLeDiff, Nat.reduceSub, reduceCtorEq, reduceIte, Int.reduceToNat, beq_self_eq_true, Bool.and_self, List.length_append]
  refine hNc _ (VWp.keep [1,2,3,13] [3,1000000] ?_); simp only [go_sem, Int.reduceEq, Int.reduceNe, Int.reduceLT, Int.reduceLE, Nat.reduceEqDiff, Nat.reduceAdd, Nat.reduceMul, Nat.reduceLT, Nat.reduceLeDiff, Nat.reduceSub, reduceCtorEq, reduceIte, Int.reduceToNat, beq_self_eq_true, Bool.and_self, List.length_append]
  refine vif rfl ⟨(fun ht => absurd (of_decide_eq_true ht) (by omega)), fun hf => ?_⟩
  refine vwp_skip (hNb _ ?_)
  refine vmeet (fun _ : Nat => [(1, .sl 1 ((bodyT d g).map u8c)), (2, .own 1000000 rows.length), (3, .ptr 3 0)]) (fun _ => [(3, .box 41 [.int .i64 d.org, .int .i64 d.fmt, .bool d.bl, .bool d.asa, .int .i64 d.lrecl, .int .i64 d.blk, .int .i64 d.klen, .int .i64 d.kpos]), (1000000, .arr 1 45 rows)]) (fun z => z = 0) ?_ ?_
  · refine vwp_seq_k fun Nf hNf => vreg tt_ok hF rfl ?_; simp only [go_sem, Int.reduceEq, Int.reduceNe, Int.reduceLT, Int.reduceLE, Nat.reduceEqDiff, Nat.reduceAdd, Nat.reduceMul, Nat.reduceLT, Nat.reduceLeDiff, Nat.reduceSub, reduceCtorEq, reduceIte, Int.reduceToNat, beq_self_eq_true, Bool.and_self, List.length_append]
    refine hNf _ (VWp.keep [1,2,3,17] [3,1000000] ?_); simp only [go_sem, Int.reduceEq, Int.reduceNe, Int.reduceLT, Int.reduceLE, Nat.reduceEqDiff, Nat.reduceAdd, Nat.reduceMul, Nat.reduceLT, Nat.reduceLeDiff, Nat.reduceSub, reduceCtorEq, reduceIte, Int.reduceToNat, beq_self_eq_true, Bool.and_self, List.length_append]
    refine vif rfl ⟨fun ht => ?_, fun hf => ?_⟩
    · have hd : d.fmt = 2 := of_decide_eq_true ht
      have eE : encG d g = desT ((bodyT d g).length + 4) ++ bodyT d g := by unfold encG; rw [if_pos hd]
      have hdes := described_spec ((bodyT d g).length + 4) (by omega) (bodyT d g) (by omega)
      have eL : (encG d g).length = (bodyT d g).length + 4 := by rw [eE, List.length_append, des_len]; omega
      unfold u8V at hdes
      rw [← eE] at hdes
      refine vwp_seq_k fun Ng hNg => ?_
      refine vwp_seq_k fun Nh hNh => vreg tt_ok hF rfl ?_; simp only [go_sem, Int.reduceEq, Int.reduceNe, Int.reduceLT, Int.reduceLE, Nat.reduceEqDiff, Nat.reduceAdd, Nat.reduceMul, Nat.reduceLT, Nat.reduceLeDiff, Nat.reduceSub, reduceCtorEq, reduceIte, Int.reduceToNat, beq_self_eq_true, Bool.and_self, List.length_append]
      refine .inl ⟨_, hdes, ?_⟩; try simp only [go_sem, Int.reduceEq, Int.reduceNe, Int.reduceLT, Int.reduceLE, Nat.reduceEqDiff, Nat.reduceAdd, Nat.reduceMul, Nat.reduceLT, Nat.reduceLeDiff, Nat.reduceSub, reduceCtorEq, reduceIte, Int.reduceToNat, beq_self_eq_true, Bool.and_self, List.length_append]
      refine hNh _ (VWp.keep [1,2,3,22] [3,1000000] ?_); simp only [go_sem, Int.reduceEq, Int.reduceNe, Int.reduceLT, Int.reduceLE, Nat.reduceEqDiff, Nat.reduceAdd, Nat.reduceMul, Nat.reduceLT, Nat.reduceLeDiff, Nat.reduceSub, reduceCtorEq, reduceIte, Int.reduceToNat, beq_self_eq_true, Bool.and_self, List.length_append]
      refine vif rfl ⟨(fun ht => by simp only [eL, decide_true, Bool.not_true] at ht; cases ht), fun hf => ?_⟩
      refine vwp_skip (hNg _ ?_)
      refine vreg tt_ok hF rfl ?_; simp only [go_sem, Int.reduceEq, Int.reduceNe, Int.reduceLT, Int.reduceLE, Nat.reduceEqDiff, Nat.reduceAdd, Nat.reduceMul, Nat.reduceLT, Nat.reduceLeDiff, Nat.reduceSub, reduceCtorEq, reduceIte, Int.reduceToNat, beq_self_eq_true, Bool.and_self, List.length_append]
      refine ⟨by first | omega | (simp; omega), ?_⟩
      refine ⟨0, rfl, ?_⟩
      rw [eE]
      simp [desT]
      exact List.take_of_length_le (by simp)
    · have hd : d.fmt ≠ 2 := of_decide_eq_false hf
      have eE : encG d g = bodyT d g := by unfold encG; rw [if_neg hd]
      refine vwp_skip ?_
      simp only [go_sem, Int.reduceEq, Int.reduceNe, Int.reduceLT, Int.reduceLE, Nat.reduceEqDiff, Nat.reduceAdd, Nat.reduceMul, Nat.reduceLT, Nat.reduceLeDiff, Nat.reduceSub, reduceCtorEq, reduceIte, Int.reduceToNat, beq_self_eq_true, Bool.and_self, List.length_append]
      refine ⟨0, rfl, ?_⟩
      rw [eE]
      try simp
  intro z hz
  refine vwp_seq_k fun Nj hNj => ?_
  refine vwp_block (vloop (fun k : Nat => [(1, .sl 1 ((bodyT d (g.drop k)).map u8c)), (2, .own 1000000 (rows ++ (g.take k).map blkR).length), (3, .ptr 3 0)]) (fun k => [(3, .box 41 [.int .i64 d.org, .int .i64 d.fmt, .bool d.bl, .bool d.asa, .int .i64 d.lrecl, .int .i64 d.blk, .int .i64 d.klen, .int .i64 d.kpos]), (1000000, .arr 1 45 (rows ++ (g.take k).map blkR))]) (fun k => k ≤ g.length) (fun k => g.length - k) 0 (Nat.zero_le _) (by simp only [List.drop_zero, List.take_zero, List.map_nil, List.append_nil, go_sem, Int.reduceEq, Int.reduceNe, Int.reduceLT, Int.reduceLE, Nat.reduceEqDiff, Nat.reduceAdd, Nat.reduceMul, Nat.reduceLT, Nat.reduceLeDiff, Nat.reduceSub, reduceCtorEq, reduceIte, Int.reduceToNat, beq_self_eq_true, Bool.and_self, List.length_append]) ?_)
  intro k hk
  have hbs := body_sub d g k
  have htk : (g.take k).length = k := by rw [List.length_take]; omega
  refine vwp_seq_k fun Nk hNk => ?_
  refine vwp_seq_k fun Nl hNl => vreg tt_ok hF rfl ?_; simp only [go_sem, Int.reduceEq, Int.reduceNe, Int.reduceLT, Int.reduceLE, Nat.reduceEqDiff, Nat.reduceAdd, Nat.reduceMul, Nat.reduceLT, Nat.reduceLeDiff, Nat.reduceSub, reduceCtorEq, reduceIte, Int.reduceToNat, beq_self_eq_true, Bool.and_self, List.length_append]
  refine hNl _ (VWp.keep [1,2,3,28] [3,1000000] ?_); simp only [go_sem, Int.reduceEq, Int.reduceNe, Int.reduceLT, Int.reduceLE, Nat.reduceEqDiff, Nat.reduceAdd, Nat.reduceMul, Nat.reduceLT, Nat.reduceLeDiff, Nat.reduceSub, reduceCtorEq, reduceIte, Int.reduceToNat, beq_self_eq_true, Bool.and_self, List.length_append]
  refine vif rfl ⟨fun ht => ?_, fun hf => ?_⟩
  · have hlt : k < g.length := by
      rcases Nat.lt_or_ge k g.length with q | q
      · exact q
      · have h1 : g.drop k = [] := List.drop_eq_nil_of_le q
        rw [h1] at ht
        simp [bodyT] at ht
    have hbd := body_drop d g k hlt
    have hfit := hg.fit g[k] (List.getElem_mem hlt)
    have hfl := fit_len h hfit
    have hne := fit_ne h hfit
    have hbs2 := body_sub d g (k + 1)
    have hrow : (rows ++ (g.take k).map blkR) ++ [[V.sl 1 (g[k].map u8c)]] = rows ++ (g.take (k + 1)).map blkR := by
      rw [List.take_succ_eq_append_getElem hlt, List.map_append, List.append_assoc]; rfl
    generalize hr0 : g[k] = r at *
    generalize hrest : bodyT d (g.drop (k + 1)) = rest at *
    have hfits := fits_spec d h (r.length : Int)
    rw [hfit] at hfits
    simp only [dcbV, dcbC] at hfits
    have hclone := Clone_spec r hne (by omega)
    unfold u8V at hclone
    refine vwp_skip (hNk _ ?_)
    refine vwp_block ?_
    refine vwp_seq_k fun Nm hNm => vreg tt_ok hF rfl ?_; simp only [go_sem, Int.reduceEq, Int.reduceNe, Int.reduceLT, Int.reduceLE, Nat.reduceEqDiff, Nat.reduceAdd, Nat.reduceMul, Nat.reduceLT, Nat.reduceLeDiff, Nat.reduceSub, reduceCtorEq, reduceIte, Int.reduceToNat, beq_self_eq_true, Bool.and_self, List.length_append]
    refine hNm _ (VWp.keep [1,2,3,8] [3,1000000] ?_); simp only [go_sem, Int.reduceEq, Int.reduceNe, Int.reduceLT, Int.reduceLE, Nat.reduceEqDiff, Nat.reduceAdd, Nat.reduceMul, Nat.reduceLT, Nat.reduceLeDiff, Nat.reduceSub, reduceCtorEq, reduceIte, Int.reduceToNat, beq_self_eq_true, Bool.and_self, List.length_append]
    refine vmeet (fun _ : Nat => [(1, .sl 1 ((r ++ rest).map u8c)), (2, .own 1000000 (rows ++ (g.take k).map blkR).length), (3, .ptr 3 0), (8, .int .i64 (r.length : Int))]) (fun _ => [(3, .box 41 [.int .i64 d.org, .int .i64 d.fmt, .bool d.bl, .bool d.asa, .int .i64 d.lrecl, .int .i64 d.blk, .int .i64 d.klen, .int .i64 d.kpos]), (1000000, .arr 1 45 (rows ++ (g.take k).map blkR))]) (fun z => z = 0) ?_ ?_
    · refine vwp_seq_k fun No hNo => vreg tt_ok hF rfl ?_; simp only [go_sem, Int.reduceEq, Int.reduceNe, Int.reduceLT, Int.reduceLE, Nat.reduceEqDiff, Nat.reduceAdd, Nat.reduceMul, Nat.reduceLT, Nat.reduceLeDiff, Nat.reduceSub, reduceCtorEq, reduceIte, Int.reduceToNat, beq_self_eq_true, Bool.and_self, List.length_append]
      refine hNo _ (VWp.keep [1,2,3,8,32] [3,1000000] ?_); simp only [go_sem, Int.reduceEq, Int.reduceNe, Int.reduceLT, Int.reduceLE, Nat.reduceEqDiff, Nat.reduceAdd, Nat.reduceMul, Nat.reduceLT, Nat.reduceLeDiff, Nat.reduceSub, reduceCtorEq, reduceIte, Int.reduceToNat, beq_self_eq_true, Bool.and_self, List.length_append]
      refine vwp_block ?_
      refine vwp_seq_k fun Np hNp => vreg tt_ok hF rfl ?_; simp only [go_sem, Int.reduceEq, Int.reduceNe, Int.reduceLT, Int.reduceLE, Nat.reduceEqDiff, Nat.reduceAdd, Nat.reduceMul, Nat.reduceLT, Nat.reduceLeDiff, Nat.reduceSub, reduceCtorEq, reduceIte, Int.reduceToNat, beq_self_eq_true, Bool.and_self, List.length_append]
      refine hNp _ (VWp.keep [1,2,3,8,32,33] [3,1000000] ?_); simp only [go_sem, Int.reduceEq, Int.reduceNe, Int.reduceLT, Int.reduceLE, Nat.reduceEqDiff, Nat.reduceAdd, Nat.reduceMul, Nat.reduceLT, Nat.reduceLeDiff, Nat.reduceSub, reduceCtorEq, reduceIte, Int.reduceToNat, beq_self_eq_true, Bool.and_self, List.length_append]
      refine vif rfl ⟨fun ht => ?_, fun hf => ?_⟩
      · have hd : d.fmt = 1 := of_decide_eq_true ht
        have hfx : (r.length : Int) = d.lrecl := by unfold fitT at hfit; rw [if_pos hd] at hfit; exact of_decide_eq_true hfit
        rw [if_neg (by omega)] at hbd
        refine vreg tt_ok hF rfl ?_; simp only [go_sem, Int.reduceEq, Int.reduceNe, Int.reduceLT, Int.reduceLE, Nat.reduceEqDiff, Nat.reduceAdd, Nat.reduceMul, Nat.reduceLT, Nat.reduceLeDiff, Nat.reduceSub, reduceCtorEq, reduceIte, Int.reduceToNat, beq_self_eq_true, Bool.and_self, List.length_append]
        refine ⟨0, rfl, ?_⟩
        rw [hbd, hfx]
        simp
      · have hd1 : d.fmt ≠ 1 := of_decide_eq_false hf
        refine vwp_seq_k fun Nu hNu => vreg tt_ok hF rfl ?_; simp only [go_sem, Int.reduceEq, Int.reduceNe, Int.reduceLT, Int.reduceLE, Nat.reduceEqDiff, Nat.reduceAdd, Nat.reduceMul, Nat.reduceLT, Nat.reduceLeDiff, Nat.reduceSub, reduceCtorEq, reduceIte, Int.reduceToNat, beq_self_eq_true, Bool.and_self, List.length_append]
        refine hNu _ (VWp.keep [1,2,3,8,37] [3,1000000] ?_); simp only [go_sem, Int.reduceEq, Int.reduceNe, Int.reduceLT, Int.reduceLE, Nat.reduceEqDiff, Nat.reduceAdd, Nat.reduceMul, Nat.reduceLT, Nat.reduceLeDiff, Nat.reduceSub, reduceCtorEq, reduceIte, Int.reduceToNat, beq_self_eq_true, Bool.and_self, List.length_append]
        refine vif rfl ⟨fun ht => ?_, fun hf => ?_⟩
        · have hd : d.fmt = 2 := of_decide_eq_true ht
          rw [if_pos hd] at hbd
          have hdes := described_spec (r.length + 4) (by omega) (r ++ rest) (by rw [List.length_append]; have := congrArg List.length hbd; simp [desT] at this; omega)
          unfold u8V at hdes
          rw [← List.append_assoc, ← hbd] at hdes
          refine vwp_seq_k fun Nv hNv => vreg tt_ok hF rfl ?_; simp only [go_sem, Int.reduceEq, Int.reduceNe, Int.reduceLT, Int.reduceLE, Nat.reduceEqDiff, Nat.reduceAdd, Nat.reduceMul, Nat.reduceLT, Nat.reduceLeDiff, Nat.reduceSub, reduceCtorEq, reduceIte, Int.reduceToNat, beq_self_eq_true, Bool.and_self, List.length_append]
          refine .inl ⟨_, hdes, ?_⟩; try simp only [go_sem, Int.reduceEq, Int.reduceNe, Int.reduceLT, Int.reduceLE, Nat.reduceEqDiff, Nat.reduceAdd, Nat.reduceMul, Nat.reduceLT, Nat.reduceLeDiff, Nat.reduceSub, reduceCtorEq, reduceIte, Int.reduceToNat, beq_self_eq_true, Bool.and_self, List.length_append]
          rw [wrap_i64 (by omega) (by omega)]
          refine hNv _ (VWp.keep [1,2,3,8] [3,1000000] ?_); simp only [go_sem, Int.reduceEq, Int.reduceNe, Int.reduceLT, Int.reduceLE, Nat.reduceEqDiff, Nat.reduceAdd, Nat.reduceMul, Nat.reduceLT, Nat.reduceLeDiff, Nat.reduceSub, reduceCtorEq, reduceIte, Int.reduceToNat, beq_self_eq_true, Bool.and_self, List.length_append]
          refine vwp_seq_k fun Nw hNw => ?_
          refine vwp_seq_k fun Nx hNx => vreg tt_ok hF rfl ?_; simp only [go_sem, Int.reduceEq, Int.reduceNe, Int.reduceLT, Int.reduceLE, Nat.reduceEqDiff, Nat.reduceAdd, Nat.reduceMul, Nat.reduceLT, Nat.reduceLeDiff, Nat.reduceSub, reduceCtorEq, reduceIte, Int.reduceToNat, beq_self_eq_true, Bool.and_self, List.length_append]
          refine hNx _ (VWp.keep [1,2,3,8,43] [3,1000000] ?_); simp only [go_sem, Int.reduceEq, Int.reduceNe, Int.reduceLT, Int.reduceLE, Nat.reduceEqDiff, Nat.reduceAdd, Nat.reduceMul, Nat.reduceLT, Nat.reduceLeDiff, Nat.reduceSub, reduceCtorEq, reduceIte, Int.reduceToNat, beq_self_eq_true, Bool.and_self, List.length_append]
          refine vif rfl ⟨(fun ht => absurd (of_decide_eq_true ht) (by omega)), fun hf => ?_⟩
          refine vwp_skip (hNw _ ?_)
          refine vreg tt_ok hF rfl ?_; simp only [go_sem, Int.reduceEq, Int.reduceNe, Int.reduceLT, Int.reduceLE, Nat.reduceEqDiff, Nat.reduceAdd, Nat.reduceMul, Nat.reduceLT, Nat.reduceLeDiff, Nat.reduceSub, reduceCtorEq, reduceIte, Int.reduceToNat, beq_self_eq_true, Bool.and_self, List.length_append]
          refine ⟨by have := congrArg List.length hbd; simp [desT] at this; first | omega | (simp; omega), ?_⟩
          refine ⟨0, rfl, ?_⟩
          rw [hbd]
          simp [desT]
          exact List.take_of_length_le (by simp)
        · have hd2 : d.fmt ≠ 2 := of_decide_eq_false hf
          rw [if_neg hd2] at hbd
          have hd3 : d.fmt = 3 := by
            by_cases q : d.fmt = 3
            · exact q
            · rw [lens4 hd1 hd2 q] at hlens; cases hlens
          have hb0 : d.bl = false := by rw [lens3 hd3] at hlens; simp at hlens; exact hlens.2
          have hone := hg.one hb0
          have hrest0 : rest = [] := by rw [← hrest, List.drop_eq_nil_of_le (by omega)]; rfl
          refine vwp_skip ?_
          simp only [go_sem, Int.reduceEq, Int.reduceNe, Int.reduceLT, Int.reduceLE, Nat.reduceEqDiff, Nat.reduceAdd, Nat.reduceMul, Nat.reduceLT, Nat.reduceLeDiff, Nat.reduceSub, reduceCtorEq, reduceIte, Int.reduceToNat, beq_self_eq_true, Bool.and_self, List.length_append]
          refine ⟨0, rfl, ?_⟩
          rw [hbd, hrest0]
          simp
    · intro z hz
      have hle2 : decide ((((r ++ rest).length : Nat) : Int) < (r.length : Int)) = false := decide_eq_false (by rw [List.length_append]; omega)
      rw [List.length_append] at hle2
      refine vwp_seq_k fun Nq hNq => ?_
      refine vwp_seq_k fun Nr hNr => vreg tt_ok hF rfl ?_; simp only [go_sem, Int.reduceEq, Int.reduceNe, Int.reduceLT, Int.reduceLE, Nat.reduceEqDiff, Nat.reduceAdd, Nat.reduceMul, Nat.reduceLT, Nat.reduceLeDiff, Nat.reduceSub, reduceCtorEq, reduceIte, Int.reduceToNat, beq_self_eq_true, Bool.and_self, List.length_append]
      simp only [hle2, go_sem, Int.reduceEq, Int.reduceNe, Int.reduceLT, Int.reduceLE, Nat.reduceEqDiff, Nat.reduceAdd, Nat.reduceMul, Nat.reduceLT, Nat.reduceLeDiff, Nat.reduceSub, reduceCtorEq, reduceIte, Int.reduceToNat, beq_self_eq_true, Bool.and_self, List.length_append]
      refine .inl ⟨_, hfits, ?_⟩; try simp only [go_sem, Int.reduceEq, Int.reduceNe, Int.reduceLT, Int.reduceLE, Nat.reduceEqDiff, Nat.reduceAdd, Nat.reduceMul, Nat.reduceLT, Nat.reduceLeDiff, Nat.reduceSub, reduceCtorEq, reduceIte, Int.reduceToNat, beq_self_eq_true, Bool.and_self, List.length_append]
      refine hNr _ (VWp.keep [1,2,3,8,56] [3,1000000] ?_); simp only [go_sem, Int.reduceEq, Int.reduceNe, Int.reduceLT, Int.reduceLE, Nat.reduceEqDiff, Nat.reduceAdd, Nat.reduceMul, Nat.reduceLT, Nat.reduceLeDiff, Nat.reduceSub, reduceCtorEq, reduceIte, Int.reduceToNat, beq_self_eq_true, Bool.and_self, List.length_append]
      refine vif rfl ⟨(fun ht => by cases ht), fun hf => ?_⟩
      refine vwp_skip (hNq _ ?_)
      refine vwp_seq_k fun Nt hNt => vreg tt_ok hF rfl ?_; simp only [go_sem, Int.reduceEq, Int.reduceNe, Int.reduceLT, Int.reduceLE, Nat.reduceEqDiff, Nat.reduceAdd, Nat.reduceMul, Nat.reduceLT, Nat.reduceLeDiff, Nat.reduceSub, reduceCtorEq, reduceIte, Int.reduceToNat, beq_self_eq_true, Bool.and_self, List.length_append]
      refine ⟨⟨by omega, by omega⟩, ?_⟩
      have htake : ((r ++ rest).map u8c).take r.length = r.map u8c := by rw [List.map_append, ← List.length_map (f := u8c), List.take_left]
      have hdrop : ((r ++ rest).map u8c).drop r.length = rest.map u8c := by rw [List.map_append, ← List.length_map (f := u8c), List.drop_left]
      rw [htake]
      refine .inl ⟨_, hclone, ?_⟩; try simp only [go_sem, Int.reduceEq, Int.reduceNe, Int.reduceLT, Int.reduceLE, Nat.reduceEqDiff, Nat.reduceAdd, Nat.reduceMul, Nat.reduceLT, Nat.reduceLeDiff, Nat.reduceSub, reduceCtorEq, reduceIte, Int.reduceToNat, beq_self_eq_true, Bool.and_self, List.length_append]
      refine ⟨by rw [htk]; omega, ?_⟩
      have hsl2 : rows.length + (g.take k).length + 1 = rows.length + (g.take (k + 1)).length := by rw [htk, List.length_take]; omega
      rw [hrow]
      refine hNt _ (VWp.keep [1,2,3,8] [3,1000000] ?_); simp only [go_sem, Int.reduceEq, Int.reduceNe, Int.reduceLT, Int.reduceLE, Nat.reduceEqDiff, Nat.reduceAdd, Nat.reduceMul, Nat.reduceLT, Nat.reduceLeDiff, Nat.reduceSub, reduceCtorEq, reduceIte, Int.reduceToNat, beq_self_eq_true, Bool.and_self, List.length_append]
      rw [hsl2]
      refine ⟨Nat.le_refl _, ?_⟩
      refine vreg tt_ok hF rfl ?_; simp only [go_sem, Int.reduceEq, Int.reduceNe, Int.reduceLT, Int.reduceLE, Nat.reduceEqDiff, Nat.reduceAdd, Nat.reduceMul, Nat.reduceLT, Nat.reduceLeDiff, Nat.reduceSub, reduceCtorEq, reduceIte, Int.reduceToNat, beq_self_eq_true, Bool.and_self, List.length_append]
      refine ⟨by first | omega | (simp; omega), ?_⟩
      refine ⟨k + 1, by omega, by omega, ?_⟩
      rw [hrest, show List.take (r.length + rest.length) ((r ++ rest).map u8c) = (r ++ rest).map u8c from List.take_of_length_le (by simp), hdrop]
      simp
  · have hkl : k = g.length := by
      rcases Nat.lt_or_ge k g.length with q | q
      · exfalso
        have h1 := body_drop d g k q
        have h2 := fit_ne h (hg.fit g[k] (List.getElem_mem q))
        have h3 : 0 < (bodyT d (g.drop k)).length := by
          rw [h1]
          have : 0 < g[k].length := List.length_pos_iff.2 h2
          split <;> simp <;> omega
        have h4 := of_decide_eq_false hf
        omega
      · omega
    subst hkl
    rw [List.take_length]
    refine vwp_exit ?_
    simp only [go_sem, Int.reduceEq, Int.reduceNe, Int.reduceLT, Int.reduceLE, Nat.reduceEqDiff, Nat.reduceAdd, Nat.reduceMul, Nat.reduceLT, Nat.reduceLeDiff, Nat.reduceSub, reduceCtorEq, reduceIte, Int.reduceToNat, beq_self_eq_true, Bool.and_self, List.length_append]
    refine hNj _ (VWp.keepR [2] [1000000] tt_ok hF rfl fun Nz hNz => ?_); simp only [go_sem, Int.reduceEq, Int.reduceNe, Int.reduceLT, Int.reduceLE, Nat.reduceEqDiff, Nat.reduceAdd, Nat.reduceMul, Nat.reduceLT, Nat.reduceLeDiff, Nat.reduceSub, reduceCtorEq, reduceIte, Int.reduceToNat, beq_self_eq_true, Bool.and_self, List.length_append]
    refine hNz _ (VWp.keep [6,7] [1000000] ?_); simp only [go_sem, Int.reduceEq, Int.reduceNe, Int.reduceLT, Int.reduceLE, Nat.reduceEqDiff, Nat.reduceAdd, Nat.reduceMul, Nat.reduceLT, Nat.reduceLeDiff, Nat.reduceSub, reduceCtorEq, reduceIte, Int.reduceToNat, beq_self_eq_true, Bool.and_self, List.length_append]
    refine vwp_ret ?_
    simp only [go_sem, Int.reduceEq, Int.reduceNe, Int.reduceLT, Int.reduceLE, Nat.reduceEqDiff, Nat.reduceAdd, Nat.reduceMul, Nat.reduceLT, Nat.reduceLeDiff, Nat.reduceSub, reduceCtorEq, reduceIte, Int.reduceToNat, beq_self_eq_true, Bool.and_self, List.length_append]
    first | exact LeV.refl _ | exact ⟨LeV.refl _, by simp⟩
end Go.Proofs.YtjedikaidbobdaaGreatDoor

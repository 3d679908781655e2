import Derived.Outline
import Derived.Test.YtnaljgmcpagbbaaGreatDoorJU
/- Layer 34: the data of a statement. -/
-- SIMP: beq_self_eq_true, Bool.and_self, List.take_length
namespace Go.Proofs.YtnaljgmcpagbbaaGreatDoor
open Go.RowKit
set_option linter.unusedVariables false
set_option linter.unusedSimpArgs false
def dcol (k : Nat) : List Jb → List Jb
  | [] => []
  | l :: t => if k == 0 then [] else if k == 1 && begJ l [47, 47] then [] else if !cardJ l then [] else if begJ l [47, 42] then [] else l :: dcol k t
def dataR (R : Nat ⊕ (List Jb × List Jb × Nat)) : Nat := match R with | .inl b => b | .inr _ => 0
def dataI (R : Nat ⊕ (List Jb × List Jb × Nat)) : Nat := match R with | .inl b => b | .inr (_, _, i) => i
theorem dataJ_cons (k : Nat) (l : Jb) (t : List Jb) (i : Nat) : dataJ k (l :: t) i = if k == 0 then .inr ([], l :: t, i)
    else if k == 1 && begJ l [47, 47] then .inr ([], l :: t, i)
    else if !cardJ l then .inl (i + 1)
    else if begJ l [47, 42] then .inr ([], t, i + 1)
    else match dataJ k t (i + 1) with
      | .inl b => .inl b
      | .inr (d, t2, i2) => .inr (l :: d, t2, i2) := rfl
theorem dcol_cons (k : Nat) (l : Jb) (t : List Jb) : dcol k (l :: t) = if k == 0 then [] else if k == 1 && begJ l [47, 47] then [] else if !cardJ l then [] else if begJ l [47, 42] then [] else l :: dcol k t := rfl
theorem dataJ_dcol {k : Nat} : ∀ (t : List Jb) (i : Nat) {d t2 : List Jb} {i2 : Nat}, dataJ k t i = .inr (d, t2, i2) → d = dcol k t
  | [], i, d, t2, i2, h => by simp only [dataJ, Sum.inr.injEq, Prod.mk.injEq] at h; exact h.1.symm
  | l :: t, i, d, t2, i2, h => by
    rw [dataJ_cons] at h
    rw [dcol_cons]
    split at h
    · rename_i q; rw [if_pos q]; simp only [Sum.inr.injEq, Prod.mk.injEq] at h; exact h.1.symm
    · rename_i q; rw [if_neg q]
      split at h
      · rename_i q; rw [if_pos q]; simp only [Sum.inr.injEq, Prod.mk.injEq] at h; exact h.1.symm
      · rename_i q; rw [if_neg q]
        split at h
        · cases h
        · rename_i q; rw [if_neg q]
          split at h
          · rename_i q; rw [if_pos q]; simp only [Sum.inr.injEq, Prod.mk.injEq] at h; exact h.1.symm
          · rename_i q; rw [if_neg q]
            split at h
            · cases h
            · rename_i d' t2' i2' hr
              simp only [Sum.inr.injEq, Prod.mk.injEq] at h
              rw [← h.1, dataJ_dcol t (i + 1) hr]
theorem dataR_step (k : Nat) (l : Jb) (t : List Jb) (i : Nat) (h0 : ¬ (k == 0) = true) (h1 : ¬ (k == 1 && begJ l [47, 47]) = true) (h2 : ¬ (!cardJ l) = true) (h3 : ¬ begJ l [47, 42] = true) :
    dataR (dataJ k (l :: t) i) = dataR (dataJ k t (i + 1)) ∧ dataI (dataJ k (l :: t) i) = dataI (dataJ k t (i + 1)) ∧ dcol k (l :: t) = l :: dcol k t := by
  rw [dataJ_cons, dcol_cons, if_neg h0, if_neg h1, if_neg h2, if_neg h3, if_neg h0, if_neg h1, if_neg h2, if_neg h3]
  refine ⟨?_, ?_, rfl⟩
  · cases dataJ k t (i + 1) with
    | inl b => rfl
    | inr x => obtain ⟨d, t2, i2⟩ := x; rfl
  · cases dataJ k t (i + 1) with
    | inl b => rfl
    | inr x => obtain ⟨d, t2, i2⟩ := x; rfl
theorem kindJ_le (s : StmJ) : kindJ s ≤ 2 := by
  unfold kindJ
  split
  · split
    · split
      · decide
      · split <;> decide
    · decide
  · decide
set_option maxHeartbeats 8000000 in
set_option maxRecDepth 4000 in
theorem data_B (L : List Jb) (i : Nat) (hi : i ≤ L.length) (hL : L.length ≤ 1000000000) (hl : ∀ l ∈ L, l.length ≤ 1000000) (line : Int) (name op : Jb) (params : List PrmJ) :
    SpecB Tryz.prog 38 [.ptr 1000000 0, .ptr 1000001 0]
      [(1000000, .box 54 [strsV L, .int .i64 (i : Int)]), (1000001, .box 34 [.int .i64 line, .str name, .str op, prmsV params, .own 1000002 0]), (1000002, .arr 1 9 [])]
      (.int .i64 (dataR (dataJ (kindJ ⟨line, name, op, params, []⟩) (L.drop i) i) : Int))
      [(1000000, .box 54 [strsV L, .int .i64 (dataI (dataJ (kindJ ⟨line, name, op, params, []⟩) (L.drop i) i) : Int)]), (1000001, .box 34 [.int .i64 line, .str name, .str op, prmsV params, .own 1000002 (dcol (kindJ ⟨line, name, op, params, []⟩) (L.drop i)).length]), (1000002, .arr 1 9 ((dcol (kindJ ⟨line, name, op, params, []⟩) (L.drop i)).map fun w => [V.str w]))] := by
  have h0 := dataOf_spec ⟨line, name, op, params, []⟩
  have hk2 := kindJ_le ⟨line, name, op, params, []⟩
  generalize kindJ ⟨line, name, op, params, []⟩ = k at h0 hk2
  obtain ⟨RR, hRR⟩ : ∃ R, dataR (dataJ k (L.drop i) i) = R := ⟨_, rfl⟩
  obtain ⟨RI, hRI⟩ : ∃ R, dataI (dataJ k (L.drop i) i) = R := ⟨_, rfl⟩
  obtain ⟨RD, hRD⟩ : ∃ R, dcol k (L.drop i) = R := ⟨_, rfl⟩
  rw [hRR, hRI, hRD]
  have e0 : decide ((k : Int) = 0) = (k == 0) := by
    by_cases h : k = 0
    · subst h; rfl
    · rw [decide_eq_false (by omega)]; simp [h]
  have e1 : decide ((k : Int) = 1) = (k == 1) := by
    by_cases h : k = 1
    · subst h; rfl
    · rw [decide_eq_false (by omega)]; simp [h]
  refine specB_of tt_ok Tryz.func38 rfl (by decide) Tryz.ntmps38 (congrArg Array.toList Tryz.results38) (by simp) (by decide) rfl (by simp only [go_sem, Int.reduceEq, Int.reduceNe, Int.reduceLT, Int.reduceLE, Nat.reduceEqDiff, Nat.reduceAdd, Nat.reduceMul, Nat.reduceLT, Nat.reduceLeDiff, Nat.reduceSub, reduceCtorEq, reduceIte, Int.reduceToNat, beq_self_eq_true, Bool.and_self, List.take_length]) (fun F hF => ?_)
  refine vwp_seq_k fun Na hNa => vreg tt_ok hF rfl ?_; simp only [go_sem, Int.reduceEq, Int.reduceNe, Int.reduceLT, Int.reduceLE, Nat.reduceEqDiff, Nat.reduceAdd, Nat.reduceMul, Nat.reduceLT, Nat.reduceLeDiff, Nat.reduceSub, reduceCtorEq, reduceIte, Int.reduceToNat, beq_self_eq_true, Bool.and_self, List.take_length]
  refine hNa _ (VWp.keep [0,1] [1000000,1000001,1000002] ?_); simp only [go_sem, Int.reduceEq, Int.reduceNe, Int.reduceLT, Int.reduceLE, Nat.reduceEqDiff, Nat.reduceAdd, Nat.reduceMul, Nat.reduceLT, Nat.reduceLeDiff, Nat.reduceSub, reduceCtorEq, reduceIte, Int.reduceToNat, beq_self_eq_true, Bool.and_self, List.take_length]
  refine vwp_seq_k fun Nb hNb => vreg tt_ok hF rfl ?_; simp only [go_sem, Int.reduceEq, Int.reduceNe, Int.reduceLT, Int.reduceLE, Nat.reduceEqDiff, Nat.reduceAdd, Nat.reduceMul, Nat.reduceLT, Nat.reduceLeDiff, Nat.reduceSub, reduceCtorEq, reduceIte, Int.reduceToNat, beq_self_eq_true, Bool.and_self, List.take_length]
  refine .inl ⟨_, h0, ?_⟩; try simp only [go_sem, Int.reduceEq, Int.reduceNe, Int.reduceLT, Int.reduceLE, Nat.reduceEqDiff, Nat.reduceAdd, Nat.reduceMul, Nat.reduceLT, Nat.reduceLeDiff, Nat.reduceSub, reduceCtorEq, reduceIte, Int.reduceToNat, beq_self_eq_true, Bool.and_self, List.take_length]
  refine hNb _ (VWp.keep [0,1,5] [1000000,1000001,1000002] ?_); simp only [go_sem, Int.reduceEq, Int.reduceNe, Int.reduceLT, Int.reduceLE, Nat.reduceEqDiff, Nat.reduceAdd, Nat.reduceMul, Nat.reduceLT, Nat.reduceLeDiff, Nat.reduceSub, reduceCtorEq, reduceIte, Int.reduceToNat, beq_self_eq_true, Bool.and_self, List.take_length]
  refine vwp_seq_k fun Nc hNc => ?_
  refine vwp_seq_k fun Nd hNd => vreg tt_ok hF rfl ?_; simp only [go_sem, Int.reduceEq, Int.reduceNe, Int.reduceLT, Int.reduceLE, Nat.reduceEqDiff, Nat.reduceAdd, Nat.reduceMul, Nat.reduceLT, Nat.reduceLeDiff, Nat.reduceSub, reduceCtorEq, reduceIte, Int.reduceToNat, beq_self_eq_true, Bool.and_self, List.take_length, e0]
  refine hNd _ (VWp.keep [0,1,5,12] [1000000,1000001,1000002] ?_); simp only [go_sem, Int.reduceEq, Int.reduceNe, Int.reduceLT, Int.reduceLE, Nat.reduceEqDiff, Nat.reduceAdd, Nat.reduceMul, Nat.reduceLT, Nat.reduceLeDiff, Nat.reduceSub, reduceCtorEq, reduceIte, Int.reduceToNat, beq_self_eq_true, Bool.and_self, List.take_length]
  refine vif rfl ⟨fun ht => ?_, fun hf => ?_⟩
  · have hk0 : k = 0 := by simpa using ht
    have hz : dataJ k (L.drop i) i = .inr ([], L.drop i, i) ∧ dcol k (L.drop i) = [] := by
      subst hk0
      cases L.drop i <;> exact ⟨rfl, rfl⟩
    rw [hz.1] at hRR hRI
    rw [hz.2] at hRD
    subst hRR; subst hRI; subst hRD
    refine vwp_seq_k fun Ne hNe => vreg tt_ok hF rfl ?_; simp only [go_sem, Int.reduceEq, Int.reduceNe, Int.reduceLT, Int.reduceLE, Nat.reduceEqDiff, Nat.reduceAdd, Nat.reduceMul, Nat.reduceLT, Nat.reduceLeDiff, Nat.reduceSub, reduceCtorEq, reduceIte, Int.reduceToNat, beq_self_eq_true, Bool.and_self, List.take_length]
    refine hNe _ (VWp.keep [4] [1000000,1000001,1000002] ?_); simp only [go_sem, Int.reduceEq, Int.reduceNe, Int.reduceLT, Int.reduceLE, Nat.reduceEqDiff, Nat.reduceAdd, Nat.reduceMul, Nat.reduceLT, Nat.reduceLeDiff, Nat.reduceSub, reduceCtorEq, reduceIte, Int.reduceToNat, beq_self_eq_true, Bool.and_self, List.take_length]
    refine vwp_ret ?_
    simp only [go_sem, Int.reduceEq, Int.reduceNe, Int.reduceLT, Int.reduceLE, Nat.reduceEqDiff, Nat.reduceAdd, Nat.reduceMul, Nat.reduceLT, Nat.reduceLeDiff, Nat.reduceSub, reduceCtorEq, reduceIte, Int.reduceToNat, beq_self_eq_true, Bool.and_self, List.take_length]
    exact ⟨LeV.refl _, by simp [dataI]⟩
  · refine vwp_skip (hNc _ ?_)
    refine vwp_seq_k fun Nf hNf => ?_
    refine vwp_block (vloop (fun z : Nat × List Jb => [(0, .ptr 1000000 0), (1, .ptr 1000001 0), (5, .int .i64 (k : Int))]) (fun z => [(1000000, .box 54 [strsV L, .int .i64 (z.1 : Int)]), (1000001, .box 34 [.int .i64 line, .str name, .str op, prmsV params, .own 1000002 z.2.length]), (1000002, .arr 1 9 (z.2.map fun w => [V.str w]))])
      (fun z => z.1 ≤ L.length ∧ dataR (dataJ k (L.drop z.1) z.1) = RR ∧ dataI (dataJ k (L.drop z.1) z.1) = RI ∧ z.2 ++ dcol k (L.drop z.1) = RD ∧ z.2.length ≤ z.1) (fun z => L.length - z.1) (i, []) ⟨hi, hRR, hRI, by simpa using hRD, Nat.zero_le _⟩ (by simp only [go_sem, Int.reduceEq, Int.reduceNe, Int.reduceLT, Int.reduceLE, Nat.reduceEqDiff, Nat.reduceAdd, Nat.reduceMul, Nat.reduceLT, Nat.reduceLeDiff, Nat.reduceSub, reduceCtorEq, reduceIte, Int.reduceToNat, beq_self_eq_true, Bool.and_self, List.take_length]) ?_)
    rintro ⟨j, D⟩ ⟨hj, j1, j2, j3, j4⟩
    have hj : j ≤ L.length := hj
    have j1 : dataR (dataJ k (L.drop j) j) = RR := j1
    have j2 : dataI (dataJ k (L.drop j) j) = RI := j2
    have j3 : D ++ dcol k (L.drop j) = RD := j3
    have j4 : D.length ≤ j := j4
    try dsimp only
    refine vwp_seq_k fun Ng hNg => ?_
    cases hg : L[j]? with
    | none =>
      have hge : L.length ≤ j := List.getElem?_eq_none_iff.1 hg
      obtain rfl : j = L.length := by omega
      rw [List.drop_length] at j1 j2 j3
      have j1 : 0 = RR := j1
      have j2 : L.length = RI := j2
      have j3 : D ++ [] = RD := j3
      rw [List.append_nil] at j3
      subst j1; subst j2; subst j3
      have e2 : decide ((L.length : Int) < (L.length : Int)) = false := decide_eq_false (by omega)
      refine vwp_seq_k fun Nh hNh => vregd tt_ok mixed hF rfl (by kernel_rfl) (by kernel_rfl) ?_; simp only [go_sem, Int.reduceEq, Int.reduceNe, Int.reduceLT, Int.reduceLE, Nat.reduceEqDiff, Nat.reduceAdd, Nat.reduceMul, Nat.reduceLT, Nat.reduceLeDiff, Nat.reduceSub, reduceCtorEq, reduceIte, Int.reduceToNat, beq_self_eq_true, Bool.and_self, List.take_length, List.length_map, e2]
      refine hNh _ (VWp.keep [0,1,5,22] [1000000,1000001,1000002] ?_); simp only [go_sem, Int.reduceEq, Int.reduceNe, Int.reduceLT, Int.reduceLE, Nat.reduceEqDiff, Nat.reduceAdd, Nat.reduceMul, Nat.reduceLT, Nat.reduceLeDiff, Nat.reduceSub, reduceCtorEq, reduceIte, Int.reduceToNat, beq_self_eq_true, Bool.and_self, List.take_length]
      refine vif rfl ⟨fun ht => (by cases ht), fun hf => ?_⟩
      refine vwp_exit ?_
      simp only [go_sem, Int.reduceEq, Int.reduceNe, Int.reduceLT, Int.reduceLE, Nat.reduceEqDiff, Nat.reduceAdd, Nat.reduceMul, Nat.reduceLT, Nat.reduceLeDiff, Nat.reduceSub, reduceCtorEq, reduceIte, Int.reduceToNat, beq_self_eq_true, Bool.and_self, List.take_length]
      refine hNf _ (VWp.keepR [] [1000000,1000001,1000002] tt_ok hF rfl fun Nt hNt => ?_); simp only [go_sem, Int.reduceEq, Int.reduceNe, Int.reduceLT, Int.reduceLE, Nat.reduceEqDiff, Nat.reduceAdd, Nat.reduceMul, Nat.reduceLT, Nat.reduceLeDiff, Nat.reduceSub, reduceCtorEq, reduceIte, Int.reduceToNat, beq_self_eq_true, Bool.and_self, List.take_length]
      refine hNt _ (VWp.keep [4] [1000000,1000001,1000002] ?_); simp only [go_sem, Int.reduceEq, Int.reduceNe, Int.reduceLT, Int.reduceLE, Nat.reduceEqDiff, Nat.reduceAdd, Nat.reduceMul, Nat.reduceLT, Nat.reduceLeDiff, Nat.reduceSub, reduceCtorEq, reduceIte, Int.reduceToNat, beq_self_eq_true, Bool.and_self, List.take_length]
      refine vwp_ret ?_
      simp only [go_sem, Int.reduceEq, Int.reduceNe, Int.reduceLT, Int.reduceLE, Nat.reduceEqDiff, Nat.reduceAdd, Nat.reduceMul, Nat.reduceLT, Nat.reduceLeDiff, Nat.reduceSub, reduceCtorEq, reduceIte, Int.reduceToNat, beq_self_eq_true, Bool.and_self, List.take_length]
      first | exact LeV.refl _ | exact ⟨LeV.refl _, by simp⟩
    | some l =>
      have hlt : j < L.length := (List.getElem?_eq_some_iff.1 hg).1
      have hll := hl l (List.mem_of_getElem? hg)
      have e2 : decide ((j : Int) < (L.length : Int)) = true := decide_eq_true (by omega)
      have hp : (0 : Int) ≤ (j : Int) ∧ (j : Int) < (L.length : Int) := ⟨by omega, by omega⟩
      have hrow : (L.map fun w => [V.str w]).getD j [] = [.str l] := by simp [hg]
      have hw : IntKind.i64.wrap ((j : Int) + 1) = ((j + 1 : Nat) : Int) := by rw [wrap_i64 (by omega) (by omega)]; rfl
      rw [drop_cons L j hg] at j1 j2 j3
      have hn0 : ¬ (k == 0) = true := by rw [hf]; decide
      have hstep := dataR_step k l (L.drop (j + 1)) j hn0
      rw [dataJ_cons, if_neg hn0] at j1 j2
      rw [dcol_cons, if_neg hn0] at j3
      rw [dataJ_cons, if_neg hn0, dcol_cons, if_neg hn0] at hstep
      have h1 := HasPrefix_spec l [47, 47]
      have h2 := isCard_spec l (by omega)
      have h3 := HasPrefix_spec l [47, 42]
      generalize begJ l [47, 47] = b1 at h1 j1 j2 j3 hstep
      generalize cardJ l = b2 at h2 j1 j2 j3 hstep
      generalize begJ l [47, 42] = b3 at h3 j1 j2 j3 hstep
      refine vwp_seq_k fun Nh hNh => vregd tt_ok mixed hF rfl (by kernel_rfl) (by kernel_rfl) ?_; simp only [go_sem, Int.reduceEq, Int.reduceNe, Int.reduceLT, Int.reduceLE, Nat.reduceEqDiff, Nat.reduceAdd, Nat.reduceMul, Nat.reduceLT, Nat.reduceLeDiff, Nat.reduceSub, reduceCtorEq, reduceIte, Int.reduceToNat, beq_self_eq_true, Bool.and_self, List.take_length, List.length_map, e2]
      refine hNh _ (VWp.keep [0,1,5,22] [1000000,1000001,1000002] ?_); simp only [go_sem, Int.reduceEq, Int.reduceNe, Int.reduceLT, Int.reduceLE, Nat.reduceEqDiff, Nat.reduceAdd, Nat.reduceMul, Nat.reduceLT, Nat.reduceLeDiff, Nat.reduceSub, reduceCtorEq, reduceIte, Int.reduceToNat, beq_self_eq_true, Bool.and_self, List.take_length]
      refine vif rfl ⟨fun ht => ?_, fun hf => (by cases hf)⟩
      refine vwp_skip (hNg _ ?_)
      refine vwp_block ?_
      refine vwp_seq_k fun Ni hNi => vregd tt_ok mixed hF rfl (by kernel_rfl) (by kernel_rfl) ?_; simp only [go_sem, Int.reduceEq, Int.reduceNe, Int.reduceLT, Int.reduceLE, Nat.reduceEqDiff, Nat.reduceAdd, Nat.reduceMul, Nat.reduceLT, Nat.reduceLeDiff, Nat.reduceSub, reduceCtorEq, reduceIte, Int.reduceToNat, beq_self_eq_true, Bool.and_self, List.take_length, List.length_map, hp, hrow]
      refine hNi _ (VWp.keep [0,1,5,6] [1000000,1000001,1000002] ?_); simp only [go_sem, Int.reduceEq, Int.reduceNe, Int.reduceLT, Int.reduceLE, Nat.reduceEqDiff, Nat.reduceAdd, Nat.reduceMul, Nat.reduceLT, Nat.reduceLeDiff, Nat.reduceSub, reduceCtorEq, reduceIte, Int.reduceToNat, beq_self_eq_true, Bool.and_self, List.take_length]
      refine vwp_seq_k fun Nj hNj => ?_
      refine vmeet (fun z : Bool => [(0, .ptr 1000000 0), (1, .ptr 1000001 0), (5, .int .i64 (k : Int)), (6, .str l), (38, .bool z)]) (fun _ => [(1000000, .box 54 [strsV L, .int .i64 (j : Int)]), (1000001, .box 34 [.int .i64 line, .str name, .str op, prmsV params, .own 1000002 D.length]), (1000002, .arr 1 9 (D.map fun w => [V.str w]))]) (fun z => z = (k == 1 && b1)) ?_ ?_
      · generalize (k == 1) = b0 at e1 ⊢
        cases b0
        · refine vreg tt_ok hF rfl ?_; simp only [go_sem, Int.reduceEq, Int.reduceNe, Int.reduceLT, Int.reduceLE, Nat.reduceEqDiff, Nat.reduceAdd, Nat.reduceMul, Nat.reduceLT, Nat.reduceLeDiff, Nat.reduceSub, reduceCtorEq, reduceIte, Int.reduceToNat, beq_self_eq_true, Bool.and_self, List.take_length, e1]
          exact ⟨_, rfl, by simp⟩
        · refine vreg tt_ok hF rfl ?_; simp only [go_sem, Int.reduceEq, Int.reduceNe, Int.reduceLT, Int.reduceLE, Nat.reduceEqDiff, Nat.reduceAdd, Nat.reduceMul, Nat.reduceLT, Nat.reduceLeDiff, Nat.reduceSub, reduceCtorEq, reduceIte, Int.reduceToNat, beq_self_eq_true, Bool.and_self, List.take_length, e1]
          refine .inl ⟨_, h1, ?_⟩; try simp only [go_sem, Int.reduceEq, Int.reduceNe, Int.reduceLT, Int.reduceLE, Nat.reduceEqDiff, Nat.reduceAdd, Nat.reduceMul, Nat.reduceLT, Nat.reduceLeDiff, Nat.reduceSub, reduceCtorEq, reduceIte, Int.reduceToNat, beq_self_eq_true, Bool.and_self, List.take_length]
          exact ⟨b1, by simp, by simp⟩
      intro z hz
      refine vif rfl ⟨fun ht => ?_, fun hf => ?_⟩
      · rw [if_pos (by rw [← hz]; exact ht)] at j1 j2 j3
        have j1 : 0 = RR := j1
        have j2 : j = RI := j2
        rw [List.append_nil] at j3
        subst j1; subst j2; subst j3
        refine vwp_seq_k fun Nl hNl => vreg tt_ok hF rfl ?_; simp only [go_sem, Int.reduceEq, Int.reduceNe, Int.reduceLT, Int.reduceLE, Nat.reduceEqDiff, Nat.reduceAdd, Nat.reduceMul, Nat.reduceLT, Nat.reduceLeDiff, Nat.reduceSub, reduceCtorEq, reduceIte, Int.reduceToNat, beq_self_eq_true, Bool.and_self, List.take_length]
        refine hNl _ (VWp.keep [4] [1000000,1000001,1000002] ?_); simp only [go_sem, Int.reduceEq, Int.reduceNe, Int.reduceLT, Int.reduceLE, Nat.reduceEqDiff, Nat.reduceAdd, Nat.reduceMul, Nat.reduceLT, Nat.reduceLeDiff, Nat.reduceSub, reduceCtorEq, reduceIte, Int.reduceToNat, beq_self_eq_true, Bool.and_self, List.take_length]
        refine vwp_ret ?_
        simp only [go_sem, Int.reduceEq, Int.reduceNe, Int.reduceLT, Int.reduceLE, Nat.reduceEqDiff, Nat.reduceAdd, Nat.reduceMul, Nat.reduceLT, Nat.reduceLeDiff, Nat.reduceSub, reduceCtorEq, reduceIte, Int.reduceToNat, beq_self_eq_true, Bool.and_self, List.take_length]
        first | exact LeV.refl _ | exact ⟨LeV.refl _, by simp⟩
      · have hn1 : ¬ (k == 1 && b1) = true := by rw [← hz, hf]; decide
        rw [if_neg hn1] at j1 j2 j3
        have hstep := hstep hn1
        rw [if_neg hn1, if_neg hn1] at hstep
        refine vwp_skip (hNj _ ?_)
        refine vwp_seq_k fun Nm hNm => vreg tt_ok hF rfl ?_; simp only [go_sem, Int.reduceEq, Int.reduceNe, Int.reduceLT, Int.reduceLE, Nat.reduceEqDiff, Nat.reduceAdd, Nat.reduceMul, Nat.reduceLT, Nat.reduceLeDiff, Nat.reduceSub, reduceCtorEq, reduceIte, Int.reduceToNat, beq_self_eq_true, Bool.and_self, List.take_length, hw]
        refine hNm _ (VWp.keep [0,1,5,6] [1000000,1000001,1000002] ?_); simp only [go_sem, Int.reduceEq, Int.reduceNe, Int.reduceLT, Int.reduceLE, Nat.reduceEqDiff, Nat.reduceAdd, Nat.reduceMul, Nat.reduceLT, Nat.reduceLeDiff, Nat.reduceSub, reduceCtorEq, reduceIte, Int.reduceToNat, beq_self_eq_true, Bool.and_self, List.take_length]
        refine vwp_seq_k fun Nn hNn => ?_
        refine vwp_seq_k fun No hNo => vreg tt_ok hF rfl ?_; simp only [go_sem, Int.reduceEq, Int.reduceNe, Int.reduceLT, Int.reduceLE, Nat.reduceEqDiff, Nat.reduceAdd, Nat.reduceMul, Nat.reduceLT, Nat.reduceLeDiff, Nat.reduceSub, reduceCtorEq, reduceIte, Int.reduceToNat, beq_self_eq_true, Bool.and_self, List.take_length]
        refine .inl ⟨_, h2, ?_⟩; try simp only [go_sem, Int.reduceEq, Int.reduceNe, Int.reduceLT, Int.reduceLE, Nat.reduceEqDiff, Nat.reduceAdd, Nat.reduceMul, Nat.reduceLT, Nat.reduceLeDiff, Nat.reduceSub, reduceCtorEq, reduceIte, Int.reduceToNat, beq_self_eq_true, Bool.and_self, List.take_length]
        refine hNo _ (VWp.keep [0,1,5,6,48] [1000000,1000001,1000002] ?_); simp only [go_sem, Int.reduceEq, Int.reduceNe, Int.reduceLT, Int.reduceLE, Nat.reduceEqDiff, Nat.reduceAdd, Nat.reduceMul, Nat.reduceLT, Nat.reduceLeDiff, Nat.reduceSub, reduceCtorEq, reduceIte, Int.reduceToNat, beq_self_eq_true, Bool.and_self, List.take_length]
        cases b2
        · refine vif rfl ⟨fun ht => ?_, fun hf => (by cases hf)⟩
          have j1 : j + 1 = RR := j1
          have j2 : j + 1 = RI := j2
          have j3 : D ++ [] = RD := j3
          rw [List.append_nil] at j3
          subst j1; subst j3
          refine vwp_seq_k fun Np hNp => vreg tt_ok hF rfl ?_; simp only [go_sem, Int.reduceEq, Int.reduceNe, Int.reduceLT, Int.reduceLE, Nat.reduceEqDiff, Nat.reduceAdd, Nat.reduceMul, Nat.reduceLT, Nat.reduceLeDiff, Nat.reduceSub, reduceCtorEq, reduceIte, Int.reduceToNat, beq_self_eq_true, Bool.and_self, List.take_length]
          refine hNp _ (VWp.keep [4] [1000000,1000001,1000002] ?_); simp only [go_sem, Int.reduceEq, Int.reduceNe, Int.reduceLT, Int.reduceLE, Nat.reduceEqDiff, Nat.reduceAdd, Nat.reduceMul, Nat.reduceLT, Nat.reduceLeDiff, Nat.reduceSub, reduceCtorEq, reduceIte, Int.reduceToNat, beq_self_eq_true, Bool.and_self, List.take_length]
          refine vwp_ret ?_
          simp only [go_sem, Int.reduceEq, Int.reduceNe, Int.reduceLT, Int.reduceLE, Nat.reduceEqDiff, Nat.reduceAdd, Nat.reduceMul, Nat.reduceLT, Nat.reduceLeDiff, Nat.reduceSub, reduceCtorEq, reduceIte, Int.reduceToNat, beq_self_eq_true, Bool.and_self, List.take_length]
          rw [← j2]
          first | exact LeV.refl _ | exact ⟨LeV.refl _, by simp⟩
        · refine vif rfl ⟨fun ht => (by cases ht), fun hf => ?_⟩
          refine vwp_skip (hNn _ ?_)
          refine vwp_seq_k fun Nq hNq => ?_
          refine vwp_seq_k fun Nr hNr => vreg tt_ok hF rfl ?_; simp only [go_sem, Int.reduceEq, Int.reduceNe, Int.reduceLT, Int.reduceLE, Nat.reduceEqDiff, Nat.reduceAdd, Nat.reduceMul, Nat.reduceLT, Nat.reduceLeDiff, Nat.reduceSub, reduceCtorEq, reduceIte, Int.reduceToNat, beq_self_eq_true, Bool.and_self, List.take_length]
          refine .inl ⟨_, h3, ?_⟩; try simp only [go_sem, Int.reduceEq, Int.reduceNe, Int.reduceLT, Int.reduceLE, Nat.reduceEqDiff, Nat.reduceAdd, Nat.reduceMul, Nat.reduceLT, Nat.reduceLeDiff, Nat.reduceSub, reduceCtorEq, reduceIte, Int.reduceToNat, beq_self_eq_true, Bool.and_self, List.take_length]
          refine hNr _ (VWp.keep [0,1,5,6,54] [1000000,1000001,1000002] ?_); simp only [go_sem, Int.reduceEq, Int.reduceNe, Int.reduceLT, Int.reduceLE, Nat.reduceEqDiff, Nat.reduceAdd, Nat.reduceMul, Nat.reduceLT, Nat.reduceLeDiff, Nat.reduceSub, reduceCtorEq, reduceIte, Int.reduceToNat, beq_self_eq_true, Bool.and_self, List.take_length]
          cases b3
          · refine vif rfl ⟨fun ht => (by cases ht), fun hf => ?_⟩
            refine vwp_skip (hNq _ ?_)
            have hstep := hstep (by decide) (by decide)
            rw [if_neg (by decide), if_neg (by decide), if_neg (by decide), if_neg (by decide)] at hstep
            rw [if_neg (by decide), if_neg (by decide)] at j1 j2 j3
            rw [hstep.1] at j1
            rw [hstep.2.1] at j2
            refine vreg tt_ok hF rfl ?_; simp only [go_sem, Int.reduceEq, Int.reduceNe, Int.reduceLT, Int.reduceLE, Nat.reduceEqDiff, Nat.reduceAdd, Nat.reduceMul, Nat.reduceLT, Nat.reduceLeDiff, Nat.reduceSub, reduceCtorEq, reduceIte, Int.reduceToNat, beq_self_eq_true, Bool.and_self, List.take_length]
            refine ⟨by omega, ?_⟩
            exact ⟨(j + 1, D ++ [l]), ⟨by simp only; omega, j1, j2, by simpa using j3, by simp; omega⟩, by simp only; omega, by simp⟩
          · refine vif rfl ⟨fun ht => ?_, fun hf => (by cases hf)⟩
            have j1 : 0 = RR := j1
            have j2 : j + 1 = RI := j2
            have j3 : D ++ [] = RD := j3
            rw [List.append_nil] at j3
            subst j1; subst j3
            refine vwp_seq_k fun Ns hNs => vreg tt_ok hF rfl ?_; simp only [go_sem, Int.reduceEq, Int.reduceNe, Int.reduceLT, Int.reduceLE, Nat.reduceEqDiff, Nat.reduceAdd, Nat.reduceMul, Nat.reduceLT, Nat.reduceLeDiff, Nat.reduceSub, reduceCtorEq, reduceIte, Int.reduceToNat, beq_self_eq_true, Bool.and_self, List.take_length]
            refine hNs _ (VWp.keep [4] [1000000,1000001,1000002] ?_); simp only [go_sem, Int.reduceEq, Int.reduceNe, Int.reduceLT, Int.reduceLE, Nat.reduceEqDiff, Nat.reduceAdd, Nat.reduceMul, Nat.reduceLT, Nat.reduceLeDiff, Nat.reduceSub, reduceCtorEq, reduceIte, Int.reduceToNat, beq_self_eq_true, Bool.and_self, List.take_length]
            refine vwp_ret ?_
            simp only [go_sem, Int.reduceEq, Int.reduceNe, Int.reduceLT, Int.reduceLE, Nat.reduceEqDiff, Nat.reduceAdd, Nat.reduceMul, Nat.reduceLT, Nat.reduceLeDiff, Nat.reduceSub, reduceCtorEq, reduceIte, Int.reduceToNat, beq_self_eq_true, Bool.and_self, List.take_length]
            rw [← j2]
            first | exact LeV.refl _ | exact ⟨LeV.refl _, by simp⟩
end Go.Proofs.YtnaljgmcpagbbaaGreatDoor

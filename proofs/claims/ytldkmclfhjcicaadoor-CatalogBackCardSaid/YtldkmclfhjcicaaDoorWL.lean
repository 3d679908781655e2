import Derived.Outline
import Derived.Test.YtldkmclfhjcicaaDoorWJ
/- The program's Decode. -/
-- SIMP: beq_self_eq_true, Bool.and_self, rdO, fnO, dO, dT, dT2
namespace Go.Proofs.YtldkmclfhjcicaaDoor
open Go.RowKit
set_option linter.unusedVariables false
set_option linter.unusedSimpArgs false
theorem pair_lt (st : Rd) : (twoR st).1 < 65536 := by
  have h1 := oneR_lt st
  have h2 := oneR_lt (oneR st).2
  unfold twoR; simp only; omega
theorem pair_len (st : Rd) : (twoR st).2.2.length ≤ st.2.length := by
  have h1 := oneR_len st
  have h2 := oneR_len (oneR st).2
  unfold twoR; simp only; omega
/-- the variables of Decode -/
def dO (st : Rd) : List (Nat × Ob) := [(4, .box 4 [.bool st.1]), (1, .box 22 [.sl 1 (bytesR st.2)]), (5, .box 117 [.fn (.func 69) [.ptr 4 0, .ptr 1 0]]), (6, .box 118 [.fn (.func 70) [.ptr 5 0]])]
def dT : List (Nat × V) := [(1, .ptr 1 0), (2, .ptr 2 0), (4, .ptr 4 0), (5, .ptr 5 0), (6, .ptr 6 0), (7, .fn (.func 71) [.ptr 6 0]), (8, .ptr 8 0)]
def dT2 : List (Nat × V) := [(1, .ptr 1 0), (2, .ptr 2 0), (4, .ptr 4 0), (5, .ptr 5 0), (6, .ptr 6 0), (8, .ptr 8 0)]
theorem entsR_step (m : Nat) (st : Rd) (h : st.1 = false) : entsR (m + 1) st = ((entR st).1 :: (entsR m (entR st).2).1, (entsR m (entR st).2).2) := by
  simp only [entsR, h, Bool.false_eq_true, if_false]
theorem entsR_stop (m : Nat) (st : Rd) (h : m = 0 ∨ st.1 = true) : entsR m st = ([], st) := by
  cases m with
  | zero => rfl
  | succ m => rcases h with h | h; cases h; unfold entsR; rw [if_pos h]
theorem grpsR_step (m : Nat) (st : Rd) (h : st.1 = false) : grpsR (m + 1) st = ((grpR st).1 :: (grpsR m (grpR st).2).1, (grpsR m (grpR st).2).2) := by
  simp only [grpsR, h, Bool.false_eq_true, if_false]
theorem grpsR_stop (m : Nat) (st : Rd) (h : m = 0 ∨ st.1 = true) : grpsR m st = ([], st) := by
  cases m with
  | zero => rfl
  | succ m => rcases h with h | h; cases h; unfold grpsR; rw [if_pos h]
theorem txtR_len (st : Rd) : (txtR st).2.2.length ≤ st.2.length := by
  have h1 := oneR_len st
  have h2 := takeR_len (oneR st).2 (oneR st).1
  unfold txtR; omega
theorem entR_len (st : Rd) : (entR st).2.2.length ≤ st.2.length := by
  have h1 := txtR_len st
  have h2 := oneR_len (txtR st).2
  have h3 := txtR_len (oneR (txtR st).2).2
  have h4 := pair_len (txtR (oneR (txtR st).2).2).2
  unfold entR; simp only; omega
theorem grpR_len (st : Rd) : (grpR st).2.2.length ≤ st.2.length := by
  have h1 := txtR_len st
  have h2 := oneR_len (txtR st).2
  unfold grpR; simp only; omega
theorem rd_cond (m : Nat) (q : Bool) : (decide ((0 : Int) < (m : Int)) && !q) = (decide (0 < m) && !q) := by congr 1; apply decide_eq_decide.2; omega
set_option maxHeartbeats 8000000 in
set_option maxRecDepth 4000 in
theorem Decode_spec (b : Bs) (hb : b.length ≤ 9223372036854775807) : Spec Tryd.prog 36 [.sl 1 (bytesR b)] (.tup [catV (decC b).1, .int .i64 (decC b).2]) := by
  obtain ⟨n1, st1, e1⟩ : ∃ n st, twoR (false, b) = (n, st) := ⟨_, _, rfl⟩
  have hp1 := pair_specB (false, b) hb
  have n1lt := pair_lt (false, b)
  have st1le := pair_len (false, b)
  rw [e1] at hp1 n1lt st1le
  simp only at n1lt st1le
  obtain ⟨ES, S1, eE⟩ : ∃ l st, entsR n1 st1 = (l, st) := ⟨_, _, rfl⟩
  refine spec_of tt_ok Tryd.func36 rfl (by decide) Tryd.ntmps36 (congrArg Array.toList Tryd.results36) (by simp) (by decide) rfl rfl (fun F hF => ?_)
  refine vwp_seq_k fun Na hNa => vreg tt_ok hF rfl ?_; simp only [go_sem, Int.reduceEq, Int.reduceNe, Int.reduceLT, Int.reduceLE, Nat.reduceEqDiff, Nat.reduceAdd, Nat.reduceMul, Nat.reduceLT, Nat.reduceLeDiff, Nat.reduceSub, reduceCtorEq, reduceIte, Int.reduceToNat, beq_self_eq_true, Bool.and_self, rdO, fnO, dO, dT, dT2]
  refine hNa _ (VWp.keepR [1,2] [1,2] tt_ok hF rfl fun Nb hNb => ?_); simp only [go_sem, Int.reduceEq, Int.reduceNe, Int.reduceLT, Int.reduceLE, Nat.reduceEqDiff, Nat.reduceAdd, Nat.reduceMul, Nat.reduceLT, Nat.reduceLeDiff, Nat.reduceSub, reduceCtorEq, reduceIte, Int.reduceToNat, beq_self_eq_true, Bool.and_self, rdO, fnO, dO, dT, dT2]
  refine hNb _ (VWp.keepR [1,2,4] [1,2,4] tt_ok hF rfl fun Nc hNc => ?_); simp only [go_sem, Int.reduceEq, Int.reduceNe, Int.reduceLT, Int.reduceLE, Nat.reduceEqDiff, Nat.reduceAdd, Nat.reduceMul, Nat.reduceLT, Nat.reduceLeDiff, Nat.reduceSub, reduceCtorEq, reduceIte, Int.reduceToNat, beq_self_eq_true, Bool.and_self, rdO, fnO, dO, dT, dT2]
  refine hNc _ (VWp.keepR [1,2,4,5] [1,2,4,5] tt_ok hF rfl fun Nd hNd => ?_); simp only [go_sem, Int.reduceEq, Int.reduceNe, Int.reduceLT, Int.reduceLE, Nat.reduceEqDiff, Nat.reduceAdd, Nat.reduceMul, Nat.reduceLT, Nat.reduceLeDiff, Nat.reduceSub, reduceCtorEq, reduceIte, Int.reduceToNat, beq_self_eq_true, Bool.and_self, rdO, fnO, dO, dT, dT2]
  refine hNd _ (VWp.keepR [1,2,4,5,6] [1,2,4,5,6] tt_ok hF rfl fun Ne hNe => ?_); simp only [go_sem, Int.reduceEq, Int.reduceNe, Int.reduceLT, Int.reduceLE, Nat.reduceEqDiff, Nat.reduceAdd, Nat.reduceMul, Nat.reduceLT, Nat.reduceLeDiff, Nat.reduceSub, reduceCtorEq, reduceIte, Int.reduceToNat, beq_self_eq_true, Bool.and_self, rdO, fnO, dO, dT, dT2]
  refine hNe _ (VWp.keepR [1,2,4,5,6,7] [1,2,4,5,6] tt_ok hF rfl fun Nf hNf => ?_); simp only [go_sem, Int.reduceEq, Int.reduceNe, Int.reduceLT, Int.reduceLE, Nat.reduceEqDiff, Nat.reduceAdd, Nat.reduceMul, Nat.reduceLT, Nat.reduceLeDiff, Nat.reduceSub, reduceCtorEq, reduceIte, Int.reduceToNat, beq_self_eq_true, Bool.and_self, rdO, fnO, dO, dT, dT2]
  refine hNf _ (VWp.keep [1,2,4,5,6,7,8] [1,2,4,5,6,8] ?_); simp only [go_sem, Int.reduceEq, Int.reduceNe, Int.reduceLT, Int.reduceLE, Nat.reduceEqDiff, Nat.reduceAdd, Nat.reduceMul, Nat.reduceLT, Nat.reduceLeDiff, Nat.reduceSub, reduceCtorEq, reduceIte, Int.reduceToNat, beq_self_eq_true, Bool.and_self, rdO, fnO, dO, dT, dT2]
  refine vwp_seq_k fun Ng hNg => ?_
  refine vwp_seq_k fun Nh hNh => vreg tt_ok hF rfl ?_; simp only [go_sem, Int.reduceEq, Int.reduceNe, Int.reduceLT, Int.reduceLE, Nat.reduceEqDiff, Nat.reduceAdd, Nat.reduceMul, Nat.reduceLT, Nat.reduceLeDiff, Nat.reduceSub, reduceCtorEq, reduceIte, Int.reduceToNat, beq_self_eq_true, Bool.and_self, rdO, fnO, dO, dT, dT2]
  simp only [rdO, fnO, List.cons_append, List.nil_append] at hp1
  refine .inr (bxo [(1000000, 4), (1000001, 1), (1000002, 5), (1000003, 6)] rfl ?_); simp only [go_sem, Int.reduceEq, Int.reduceNe, Int.reduceLT, Int.reduceLE, Nat.reduceEqDiff, Nat.reduceAdd, Nat.reduceMul, Nat.reduceLT, Nat.reduceLeDiff, Nat.reduceSub, reduceCtorEq, reduceIte, Int.reduceToNat, beq_self_eq_true, Bool.and_self, rdO, fnO, dO, dT, dT2]; refine ⟨_, _, hp1, ?_⟩; try simp only [go_sem, Int.reduceEq, Int.reduceNe, Int.reduceLT, Int.reduceLE, Nat.reduceEqDiff, Nat.reduceAdd, Nat.reduceMul, Nat.reduceLT, Nat.reduceLeDiff, Nat.reduceSub, reduceCtorEq, reduceIte, Int.reduceToNat, beq_self_eq_true, Bool.and_self, rdO, fnO, dO, dT, dT2]
  refine hNh _ (VWp.keep [1,2,4,5,6,7,8,9] [1,2,4,5,6,8] ?_); simp only [go_sem, Int.reduceEq, Int.reduceNe, Int.reduceLT, Int.reduceLE, Nat.reduceEqDiff, Nat.reduceAdd, Nat.reduceMul, Nat.reduceLT, Nat.reduceLeDiff, Nat.reduceSub, reduceCtorEq, reduceIte, Int.reduceToNat, beq_self_eq_true, Bool.and_self, rdO, fnO, dO, dT, dT2]
  refine VWp.adoptB 86 4 50 (o := 8) (i := 0) rfl rfl rfl (by decide) ?_
  refine VWp.keep [1,2,4,5,6,7,8,9] [4,1,5,6,2,8,86] ?_; simp only [go_sem, Int.reduceEq, Int.reduceNe, Int.reduceLT, Int.reduceLE, Nat.reduceEqDiff, Nat.reduceAdd, Nat.reduceMul, Nat.reduceLT, Nat.reduceLeDiff, Nat.reduceSub, reduceCtorEq, reduceIte, Int.reduceToNat, beq_self_eq_true, Bool.and_self, rdO, fnO, dO, dT, dT2]
  refine vwp_block (vloop (fun z : Nat × Rd × List Ent => dT ++ [(9, .int .i64 (z.1 : Int))])
    (fun z => dO z.2.1 ++ [(2, .box 36 [.nil, .nil]), (8, .box 36 [.own 86 z.2.2.length, .nil]), (86, .arr 4 50 (z.2.2.map entC))])
    (fun z => z.2.2 ++ (entsR z.1 z.2.1).1 = ES ∧ (entsR z.1 z.2.1).2 = S1 ∧ z.2.1.2.length ≤ b.length ∧ z.1 + z.2.2.length ≤ 65535) (fun z => z.1) (n1, st1, [])
    ⟨by rw [eE]; rfl, by rw [eE], st1le, by simp; omega⟩ (by simp only [go_sem, Int.reduceEq, Int.reduceNe, Int.reduceLT, Int.reduceLE, Nat.reduceEqDiff, Nat.reduceAdd, Nat.reduceMul, Nat.reduceLT, Nat.reduceLeDiff, Nat.reduceSub, reduceCtorEq, reduceIte, Int.reduceToNat, beq_self_eq_true, Bool.and_self, rdO, fnO, dO, dT, dT2, dT, List.cons_append, List.nil_append]) ?_)
  rintro ⟨m, ⟨q, c⟩, acc⟩ ⟨i1, i2, i3, i4⟩
  have i1 : acc ++ (entsR m (q, c)).1 = ES := i1
  have i2 : (entsR m (q, c)).2 = S1 := i2
  have i3 : c.length ≤ b.length := i3
  have i4 : m + acc.length ≤ 65535 := i4
  simp only [dT, dO, List.cons_append, List.nil_append]
  refine vwp_seq_k fun Ni hNi => ?_
  refine vmeet (fun z : Bool => dT ++ [(9, .int .i64 (m : Int)), (23, .bool z)])
    (fun _ => dO (q, c) ++ [(2, .box 36 [.nil, .nil]), (8, .box 36 [.own 86 acc.length, .nil]), (86, .arr 4 50 (acc.map entC))]) (fun z => z = (decide (0 < m) && !q)) ?_ ?_
  · by_cases hm : 0 < m
    · have f1 : decide ((0 : Int) < (m : Int)) = true := decide_eq_true (by omega)
      refine vreg tt_ok hF rfl ?_; simp only [go_sem, Int.reduceEq, Int.reduceNe, Int.reduceLT, Int.reduceLE, Nat.reduceEqDiff, Nat.reduceAdd, Nat.reduceMul, Nat.reduceLT, Nat.reduceLeDiff, Nat.reduceSub, reduceCtorEq, reduceIte, Int.reduceToNat, beq_self_eq_true, Bool.and_self, rdO, fnO, dO, dT, dT2, f1]
      exact ⟨_, rfl, by simp [hm]⟩
    · have f1 : decide ((0 : Int) < (m : Int)) = false := decide_eq_false (by omega)
      refine vreg tt_ok hF rfl ?_; simp only [go_sem, Int.reduceEq, Int.reduceNe, Int.reduceLT, Int.reduceLE, Nat.reduceEqDiff, Nat.reduceAdd, Nat.reduceMul, Nat.reduceLT, Nat.reduceLeDiff, Nat.reduceSub, reduceCtorEq, reduceIte, Int.reduceToNat, beq_self_eq_true, Bool.and_self, rdO, fnO, dO, dT, dT2, f1]
      exact ⟨_, rfl, by simp [hm]⟩
  intro z hz
  simp only [dT, dO, List.cons_append, List.nil_append]
  refine vif rfl ⟨fun ht => ?_, fun hf => ?_⟩
  · rw [ht] at hz
    have hz := Bool.and_eq_true_iff.1 hz.symm
    have hm0 : 0 < m := of_decide_eq_true hz.1
    have hq : q = false := by simpa using hz.2
    subst hq
    obtain ⟨m, rfl⟩ : ∃ k, m = k + 1 := ⟨m - 1, by omega⟩
    rw [entsR_step m (false, c) rfl] at i1 i2
    simp only at i1 i2
    -- the reads
    have o1 := one_specB (false, c) (by show c.length ≤ _; omega)
    have k1 := oneR_lt (false, c)
    have g1 := oneR_len (false, c)
    have hE : entR (false, c) = entR (false, c) := rfl
    conv at hE => rhs; unfold entR txtR
    generalize oneR (false, c) = z1 at o1 k1 g1 hE
    obtain ⟨x1, s1⟩ := z1
    have o2 := take_specB s1 x1 (by omega) (by simp only at g1; omega)
    have g2 := takeR_len s1 x1
    simp only at o1 k1 g1 hE
    generalize takeR s1 x1 = z2 at o2 g2 hE
    obtain ⟨nm, s2⟩ := z2
    have o3 := one_specB s2 (by simp only at g2; omega)
    have g3 := oneR_len s2
    simp only at o2 g2 hE
    generalize oneR s2 = z3 at o3 g3 hE
    obtain ⟨un, s3⟩ := z3
    have o4 := one_specB s3 (by simp only at g3; omega)
    have k4 := oneR_lt s3
    have g4 := oneR_len s3
    simp only at o3 g3 hE
    generalize oneR s3 = z4 at o4 k4 g4 hE
    obtain ⟨x4, s4⟩ := z4
    have o5 := take_specB s4 x4 (by omega) (by simp only at g4; omega)
    have g5 := takeR_len s4 x4
    simp only at o4 k4 g4 hE
    generalize takeR s4 x4 = z5 at o5 g5 hE
    obtain ⟨sr, s5⟩ := z5
    have o6 := pair_specB s5 (by simp only at g5; omega)
    have g6 := pair_len s5
    simp only at o5 g5 hE
    generalize twoR s5 = z6 at o6 g6 hE
    obtain ⟨fl, s6⟩ := z6
    simp only at o6 g6 hE
    rw [hE] at i1 i2
    simp only at i1 i2
    obtain ⟨p1, b1⟩ := s1
    obtain ⟨p2, b2⟩ := s2
    obtain ⟨p3, b3⟩ := s3
    obtain ⟨p4, b4⟩ := s4
    obtain ⟨p5, b5⟩ := s5
    obtain ⟨p6, b6⟩ := s6
    simp only [rdO, fnO, List.cons_append, List.nil_append] at o1 o2 o3 o4 o5 o6
    refine vwp_skip (hNi _ ?_)
    refine vwp_seq_k fun Nj hNj => ?_
    refine vwp_block ?_
    refine vmeet (fun _ : Unit => dT ++ [(9, .int .i64 ((m + 1 : Nat) : Int)), (10, .ptr 10 0)])
      (fun _ => dO (p2, b2) ++ [(2, .box 36 [.nil, .nil]), (8, .box 36 [.own 86 acc.length, .nil]), (86, .arr 4 50 (acc.map entC)), (10, .box 50 [.str nm, .int .i64 0, .str [], .int .i64 0])]) (fun _ => True) ?_ ?_
    · refine vregord tt_ok mixed hF rfl true [[0, 1, 2, 3, 4, 5, 6, 7], [0, 1, 2, 6, 3, 4, 5, 7], [0, 1, 6, 2, 3, 4, 5, 7], [1, 2, 0, 3, 4, 5, 6, 7], [1, 2, 0, 6, 3, 4, 5, 7], [1, 6, 2, 0, 3, 4, 5, 7]]
        [(28, (.int .i64 (x1 : Int), dO (p1, b1))), (29, (.sl 1 (bytesR nm), [(4, .box 4 [.bool p2]), (1, .box 22 [.sl 1 (bytesR b2)])]))] (by kernel_rfl) ⟨?_, ?_, ?_, ?_, ?_, ?_, trivial⟩ <;> simp only [pickL, go_sem, Int.reduceEq, Int.reduceNe, Int.reduceLT, Int.reduceLE, Nat.reduceEqDiff, Nat.reduceAdd, Nat.reduceMul, Nat.reduceLT, Nat.reduceLeDiff, Nat.reduceSub, reduceCtorEq, reduceIte, Int.reduceToNat, beq_self_eq_true, Bool.and_self, rdO, fnO, dO, dT, dT2]
      all_goals
        refine .inr (bxo [(1000000, 4), (1000001, 1), (1000002, 5), (1000003, 6)] rfl ?_); simp only [go_sem, Int.reduceEq, Int.reduceNe, Int.reduceLT, Int.reduceLE, Nat.reduceEqDiff, Nat.reduceAdd, Nat.reduceMul, Nat.reduceLT, Nat.reduceLeDiff, Nat.reduceSub, reduceCtorEq, reduceIte, Int.reduceToNat, beq_self_eq_true, Bool.and_self, rdO, fnO, dO, dT, dT2]; refine ⟨_, _, o1, ?_⟩; try simp only [go_sem, Int.reduceEq, Int.reduceNe, Int.reduceLT, Int.reduceLE, Nat.reduceEqDiff, Nat.reduceAdd, Nat.reduceMul, Nat.reduceLT, Nat.reduceLeDiff, Nat.reduceSub, reduceCtorEq, reduceIte, Int.reduceToNat, beq_self_eq_true, Bool.and_self, rdO, fnO, dO, dT, dT2]
        refine ⟨rfl, ?_⟩
        refine .inr (bxo [(1000000, 4), (1000001, 1)] rfl ?_); simp only [go_sem, Int.reduceEq, Int.reduceNe, Int.reduceLT, Int.reduceLE, Nat.reduceEqDiff, Nat.reduceAdd, Nat.reduceMul, Nat.reduceLT, Nat.reduceLeDiff, Nat.reduceSub, reduceCtorEq, reduceIte, Int.reduceToNat, beq_self_eq_true, Bool.and_self, rdO, fnO, dO, dT, dT2]; refine ⟨_, _, o2, ?_⟩; try simp only [go_sem, Int.reduceEq, Int.reduceNe, Int.reduceLT, Int.reduceLE, Nat.reduceEqDiff, Nat.reduceAdd, Nat.reduceMul, Nat.reduceLT, Nat.reduceLeDiff, Nat.reduceSub, reduceCtorEq, reduceIte, Int.reduceToNat, beq_self_eq_true, Bool.and_self, rdO, fnO, dO, dT, dT2]
        refine ⟨rfl, ?_⟩
        exact ⟨(), by simp⟩
    intro _ _
    simp only [dT, dO, List.cons_append, List.nil_append]
    refine vwp_seq_k fun Nm hNm => vreg tt_ok hF rfl ?_; simp only [go_sem, Int.reduceEq, Int.reduceNe, Int.reduceLT, Int.reduceLE, Nat.reduceEqDiff, Nat.reduceAdd, Nat.reduceMul, Nat.reduceLT, Nat.reduceLeDiff, Nat.reduceSub, reduceCtorEq, reduceIte, Int.reduceToNat, beq_self_eq_true, Bool.and_self, rdO, fnO, dO, dT, dT2]
    refine .inr (bxo [(1000000, 4), (1000001, 1), (1000002, 5), (1000003, 6)] rfl ?_); simp only [go_sem, Int.reduceEq, Int.reduceNe, Int.reduceLT, Int.reduceLE, Nat.reduceEqDiff, Nat.reduceAdd, Nat.reduceMul, Nat.reduceLT, Nat.reduceLeDiff, Nat.reduceSub, reduceCtorEq, reduceIte, Int.reduceToNat, beq_self_eq_true, Bool.and_self, rdO, fnO, dO, dT, dT2]; refine ⟨_, _, o3, ?_⟩; try simp only [go_sem, Int.reduceEq, Int.reduceNe, Int.reduceLT, Int.reduceLE, Nat.reduceEqDiff, Nat.reduceAdd, Nat.reduceMul, Nat.reduceLT, Nat.reduceLeDiff, Nat.reduceSub, reduceCtorEq, reduceIte, Int.reduceToNat, beq_self_eq_true, Bool.and_self, rdO, fnO, dO, dT, dT2]
    refine hNm _ (VWp.keep [1,2,4,5,6,7,8,9,10] [4,1,5,6,2,8,86,10] ?_); simp only [go_sem, Int.reduceEq, Int.reduceNe, Int.reduceLT, Int.reduceLE, Nat.reduceEqDiff, Nat.reduceAdd, Nat.reduceMul, Nat.reduceLT, Nat.reduceLeDiff, Nat.reduceSub, reduceCtorEq, reduceIte, Int.reduceToNat, beq_self_eq_true, Bool.and_self, rdO, fnO, dO, dT, dT2]
    refine vmeet (fun _ : Unit => dT ++ [(9, .int .i64 ((m + 1 : Nat) : Int)), (10, .ptr 10 0)])
      (fun _ => dO (p5, b5) ++ [(2, .box 36 [.nil, .nil]), (8, .box 36 [.own 86 acc.length, .nil]), (86, .arr 4 50 (acc.map entC)), (10, .box 50 [.str nm, .int .i64 (un : Int), .str sr, .int .i64 0])]) (fun _ => True) ?_ ?_
    · refine vregord tt_ok mixed hF rfl true [[0, 1, 2, 3, 4, 5, 6], [1, 2, 0, 3, 4, 5, 6]]
        [(37, (.int .i64 (x4 : Int), dO (p4, b4))), (38, (.sl 1 (bytesR sr), [(4, .box 4 [.bool p5]), (1, .box 22 [.sl 1 (bytesR b5)])]))] (by kernel_rfl) ⟨?_, ?_, trivial⟩ <;> simp only [pickL, go_sem, Int.reduceEq, Int.reduceNe, Int.reduceLT, Int.reduceLE, Nat.reduceEqDiff, Nat.reduceAdd, Nat.reduceMul, Nat.reduceLT, Nat.reduceLeDiff, Nat.reduceSub, reduceCtorEq, reduceIte, Int.reduceToNat, beq_self_eq_true, Bool.and_self, rdO, fnO, dO, dT, dT2]
      all_goals
        refine .inr (bxo [(1000000, 4), (1000001, 1), (1000002, 5), (1000003, 6)] rfl ?_); simp only [go_sem, Int.reduceEq, Int.reduceNe, Int.reduceLT, Int.reduceLE, Nat.reduceEqDiff, Nat.reduceAdd, Nat.reduceMul, Nat.reduceLT, Nat.reduceLeDiff, Nat.reduceSub, reduceCtorEq, reduceIte, Int.reduceToNat, beq_self_eq_true, Bool.and_self, rdO, fnO, dO, dT, dT2]; refine ⟨_, _, o4, ?_⟩; try simp only [go_sem, Int.reduceEq, Int.reduceNe, Int.reduceLT, Int.reduceLE, Nat.reduceEqDiff, Nat.reduceAdd, Nat.reduceMul, Nat.reduceLT, Nat.reduceLeDiff, Nat.reduceSub, reduceCtorEq, reduceIte, Int.reduceToNat, beq_self_eq_true, Bool.and_self, rdO, fnO, dO, dT, dT2]
        refine ⟨rfl, ?_⟩
        refine .inr (bxo [(1000000, 4), (1000001, 1)] rfl ?_); simp only [go_sem, Int.reduceEq, Int.reduceNe, Int.reduceLT, Int.reduceLE, Nat.reduceEqDiff, Nat.reduceAdd, Nat.reduceMul, Nat.reduceLT, Nat.reduceLeDiff, Nat.reduceSub, reduceCtorEq, reduceIte, Int.reduceToNat, beq_self_eq_true, Bool.and_self, rdO, fnO, dO, dT, dT2]; refine ⟨_, _, o5, ?_⟩; try simp only [go_sem, Int.reduceEq, Int.reduceNe, Int.reduceLT, Int.reduceLE, Nat.reduceEqDiff, Nat.reduceAdd, Nat.reduceMul, Nat.reduceLT, Nat.reduceLeDiff, Nat.reduceSub, reduceCtorEq, reduceIte, Int.reduceToNat, beq_self_eq_true, Bool.and_self, rdO, fnO, dO, dT, dT2]
        refine ⟨rfl, ?_⟩
        exact ⟨(), by simp⟩
    intro _ _
    simp only [dT, dO, List.cons_append, List.nil_append]
    refine vwp_seq_k fun No hNo => vreg tt_ok hF rfl ?_; simp only [go_sem, Int.reduceEq, Int.reduceNe, Int.reduceLT, Int.reduceLE, Nat.reduceEqDiff, Nat.reduceAdd, Nat.reduceMul, Nat.reduceLT, Nat.reduceLeDiff, Nat.reduceSub, reduceCtorEq, reduceIte, Int.reduceToNat, beq_self_eq_true, Bool.and_self, rdO, fnO, dO, dT, dT2]
    refine .inr (bxo [(1000000, 4), (1000001, 1), (1000002, 5), (1000003, 6)] rfl ?_); simp only [go_sem, Int.reduceEq, Int.reduceNe, Int.reduceLT, Int.reduceLE, Nat.reduceEqDiff, Nat.reduceAdd, Nat.reduceMul, Nat.reduceLT, Nat.reduceLeDiff, Nat.reduceSub, reduceCtorEq, reduceIte, Int.reduceToNat, beq_self_eq_true, Bool.and_self, rdO, fnO, dO, dT, dT2]; refine ⟨_, _, o6, ?_⟩; try simp only [go_sem, Int.reduceEq, Int.reduceNe, Int.reduceLT, Int.reduceLE, Nat.reduceEqDiff, Nat.reduceAdd, Nat.reduceMul, Nat.reduceLT, Nat.reduceLeDiff, Nat.reduceSub, reduceCtorEq, reduceIte, Int.reduceToNat, beq_self_eq_true, Bool.and_self, rdO, fnO, dO, dT, dT2]
    refine hNo _ (VWp.keep [1,2,4,5,6,7,8,9,10] [4,1,5,6,2,8,86,10] ?_); simp only [go_sem, Int.reduceEq, Int.reduceNe, Int.reduceLT, Int.reduceLE, Nat.reduceEqDiff, Nat.reduceAdd, Nat.reduceMul, Nat.reduceLT, Nat.reduceLeDiff, Nat.reduceSub, reduceCtorEq, reduceIte, Int.reduceToNat, beq_self_eq_true, Bool.and_self, rdO, fnO, dO, dT, dT2]
    refine vreg tt_ok hF rfl ?_; simp only [go_sem, Int.reduceEq, Int.reduceNe, Int.reduceLT, Int.reduceLE, Nat.reduceEqDiff, Nat.reduceAdd, Nat.reduceMul, Nat.reduceLT, Nat.reduceLeDiff, Nat.reduceSub, reduceCtorEq, reduceIte, Int.reduceToNat, beq_self_eq_true, Bool.and_self, rdO, fnO, dO, dT, dT2]
    refine ⟨by omega, ?_⟩
    refine hNj _ (VWp.keep [1,2,4,5,6,7,8,9] [4,1,5,6,2,8,86] ?_); simp only [go_sem, Int.reduceEq, Int.reduceNe, Int.reduceLT, Int.reduceLE, Nat.reduceEqDiff, Nat.reduceAdd, Nat.reduceMul, Nat.reduceLT, Nat.reduceLeDiff, Nat.reduceSub, reduceCtorEq, reduceIte, Int.reduceToNat, beq_self_eq_true, Bool.and_self, rdO, fnO, dO, dT, dT2]
    refine vreg tt_ok hF rfl ?_; simp only [go_sem, Int.reduceEq, Int.reduceNe, Int.reduceLT, Int.reduceLE, Nat.reduceEqDiff, Nat.reduceAdd, Nat.reduceMul, Nat.reduceLT, Nat.reduceLeDiff, Nat.reduceSub, reduceCtorEq, reduceIte, Int.reduceToNat, beq_self_eq_true, Bool.and_self, rdO, fnO, dO, dT, dT2]
    rw [wrap_i64 (by omega) (by omega)]
    refine ⟨(m, (p6, b6), acc ++ [⟨nm, (un : Int), sr, (fl : Int)⟩]), ⟨by simpa using i1, i2, by simp only at g1 g2 g3 g4 g5 g6; show b6.length ≤ b.length; omega, by simp; omega⟩, by simp, ?_⟩
    simp [entC]
  · rw [hf] at hz
    have hstop : m = 0 ∨ q = true := by
      rcases Nat.eq_zero_or_pos m with h | h
      · exact .inl h
      · right; rw [decide_eq_true h] at hz; simpa using hz
    rw [entsR_stop m (q, c) hstop] at i1 i2
    simp only [List.append_nil] at i1 i2
    subst i1 i2
    clear hz hf hstop
    have i5 : acc.length ≤ 65535 := by omega
    clear i4
    obtain ⟨n2, st2, e2⟩ : ∃ n st, twoR (q, c) = (n, st) := ⟨_, _, rfl⟩
    have hp2 := pair_specB (q, c) (by show c.length ≤ _; omega)
    have n2lt := pair_lt (q, c)
    have st2le := pair_len (q, c)
    rw [e2] at hp2 n2lt st2le
    simp only at n2lt st2le
    obtain ⟨GS, S2, eG⟩ : ∃ l st, grpsR n2 st2 = (l, st) := ⟨_, _, rfl⟩
    have hall : allR b = (⟨acc, GS⟩, S2) := by
      unfold allR
      simp only [e1, eE, e2, eG]
    have hR := allR_decC b
    rw [hall] at hR
    simp only at hR
    clear hall eE
    refine vwp_exit ?_
    simp only [go_sem, Int.reduceEq, Int.reduceNe, Int.reduceLT, Int.reduceLE, Nat.reduceEqDiff, Nat.reduceAdd, Nat.reduceMul, Nat.reduceLT, Nat.reduceLeDiff, Nat.reduceSub, reduceCtorEq, reduceIte, Int.reduceToNat, beq_self_eq_true, Bool.and_self, rdO, fnO, dO, dT, dT2]
    refine hNg _ (VWp.keep [1,2,4,5,6,7,8] [4,1,5,6,2,8,86] ?_); simp only [go_sem, Int.reduceEq, Int.reduceNe, Int.reduceLT, Int.reduceLE, Nat.reduceEqDiff, Nat.reduceAdd, Nat.reduceMul, Nat.reduceLT, Nat.reduceLeDiff, Nat.reduceSub, reduceCtorEq, reduceIte, Int.reduceToNat, beq_self_eq_true, Bool.and_self, rdO, fnO, dO, dT, dT2]
    refine vwp_seq_k fun Np hNp => ?_
    refine vwp_seq_k fun Nq hNq => vreg tt_ok hF rfl ?_; simp only [go_sem, Int.reduceEq, Int.reduceNe, Int.reduceLT, Int.reduceLE, Nat.reduceEqDiff, Nat.reduceAdd, Nat.reduceMul, Nat.reduceLT, Nat.reduceLeDiff, Nat.reduceSub, reduceCtorEq, reduceIte, Int.reduceToNat, beq_self_eq_true, Bool.and_self, rdO, fnO, dO, dT, dT2]
    simp only [rdO, fnO, List.cons_append, List.nil_append] at hp2
    refine .inr (bxo [(1000000, 4), (1000001, 1), (1000002, 5), (1000003, 6)] rfl ?_); simp only [go_sem, Int.reduceEq, Int.reduceNe, Int.reduceLT, Int.reduceLE, Nat.reduceEqDiff, Nat.reduceAdd, Nat.reduceMul, Nat.reduceLT, Nat.reduceLeDiff, Nat.reduceSub, reduceCtorEq, reduceIte, Int.reduceToNat, beq_self_eq_true, Bool.and_self, rdO, fnO, dO, dT, dT2]; refine ⟨_, _, hp2, ?_⟩; try simp only [go_sem, Int.reduceEq, Int.reduceNe, Int.reduceLT, Int.reduceLE, Nat.reduceEqDiff, Nat.reduceAdd, Nat.reduceMul, Nat.reduceLT, Nat.reduceLeDiff, Nat.reduceSub, reduceCtorEq, reduceIte, Int.reduceToNat, beq_self_eq_true, Bool.and_self, rdO, fnO, dO, dT, dT2]
    refine hNq _ (VWp.keep [1,2,4,5,6,8,11] [4,1,5,6,2,8,86] ?_); simp only [go_sem, Int.reduceEq, Int.reduceNe, Int.reduceLT, Int.reduceLE, Nat.reduceEqDiff, Nat.reduceAdd, Nat.reduceMul, Nat.reduceLT, Nat.reduceLeDiff, Nat.reduceSub, reduceCtorEq, reduceIte, Int.reduceToNat, beq_self_eq_true, Bool.and_self, rdO, fnO, dO, dT, dT2]
    refine VWp.adoptB 87 2 61 (o := 8) (i := 1) rfl rfl rfl (by decide) ?_
    refine VWp.keep [1,2,4,5,6,8,11] [4,1,5,6,2,8,86,87] ?_; simp only [go_sem, Int.reduceEq, Int.reduceNe, Int.reduceLT, Int.reduceLE, Nat.reduceEqDiff, Nat.reduceAdd, Nat.reduceMul, Nat.reduceLT, Nat.reduceLeDiff, Nat.reduceSub, reduceCtorEq, reduceIte, Int.reduceToNat, beq_self_eq_true, Bool.and_self, rdO, fnO, dO, dT, dT2]
    have qlen : c.length ≤ b.length := i3
    obtain ⟨ES, hES⟩ : ∃ l, acc = l := ⟨_, rfl⟩
    subst hES
    refine vwp_block (vloop (fun z : Nat × Rd × List Grp => dT2 ++ [(11, .int .i64 (z.1 : Int))])
      (fun z => dO z.2.1 ++ [(2, .box 36 [.nil, .nil]), (8, .box 36 [.own 86 acc.length, .own 87 z.2.2.length]), (86, .arr 4 50 (acc.map entC)), (87, .arr 2 61 (z.2.2.map grpC))])
      (fun z => z.2.2 ++ (grpsR z.1 z.2.1).1 = GS ∧ (grpsR z.1 z.2.1).2 = S2 ∧ z.2.1.2.length ≤ b.length ∧ z.1 + z.2.2.length ≤ 65535) (fun z => z.1) (n2, st2, [])
      ⟨by rw [eG]; rfl, by rw [eG], by simp only; omega, by simp; omega⟩ (by simp only [go_sem, Int.reduceEq, Int.reduceNe, Int.reduceLT, Int.reduceLE, Nat.reduceEqDiff, Nat.reduceAdd, Nat.reduceMul, Nat.reduceLT, Nat.reduceLeDiff, Nat.reduceSub, reduceCtorEq, reduceIte, Int.reduceToNat, beq_self_eq_true, Bool.and_self, rdO, fnO, dO, dT, dT2, dT2, List.cons_append, List.nil_append]) ?_)
    clear eG e2 n2lt st2le hp2 n2 st2 i3
    rintro ⟨m, ⟨p, c2⟩, gcc⟩ ⟨i1, i2, i3, i4⟩
    have i1 : gcc ++ (grpsR m (p, c2)).1 = GS := i1
    have i2 : (grpsR m (p, c2)).2 = S2 := i2
    have i3 : c2.length ≤ b.length := i3
    have i4 : m + gcc.length ≤ 65535 := i4
    simp only [dT2, dO, List.cons_append, List.nil_append]
    refine vwp_seq_k fun Nr hNr => ?_
    refine vmeet (fun z : Bool => dT2 ++ [(11, .int .i64 (m : Int)), (57, .bool z)])
      (fun _ => dO (p, c2) ++ [(2, .box 36 [.nil, .nil]), (8, .box 36 [.own 86 acc.length, .own 87 gcc.length]), (86, .arr 4 50 (acc.map entC)), (87, .arr 2 61 (gcc.map grpC))]) (fun z => z = (decide (0 < m) && !p)) ?_ ?_
    · by_cases hm : 0 < m
      · have f1 : decide ((0 : Int) < (m : Int)) = true := decide_eq_true (by omega)
        refine vreg tt_ok hF rfl ?_; simp only [go_sem, Int.reduceEq, Int.reduceNe, Int.reduceLT, Int.reduceLE, Nat.reduceEqDiff, Nat.reduceAdd, Nat.reduceMul, Nat.reduceLT, Nat.reduceLeDiff, Nat.reduceSub, reduceCtorEq, reduceIte, Int.reduceToNat, beq_self_eq_true, Bool.and_self, rdO, fnO, dO, dT, dT2, f1]
        exact ⟨_, rfl, by simp [hm]⟩
      · have f1 : decide ((0 : Int) < (m : Int)) = false := decide_eq_false (by omega)
        refine vreg tt_ok hF rfl ?_; simp only [go_sem, Int.reduceEq, Int.reduceNe, Int.reduceLT, Int.reduceLE, Nat.reduceEqDiff, Nat.reduceAdd, Nat.reduceMul, Nat.reduceLT, Nat.reduceLeDiff, Nat.reduceSub, reduceCtorEq, reduceIte, Int.reduceToNat, beq_self_eq_true, Bool.and_self, rdO, fnO, dO, dT, dT2, f1]
        exact ⟨_, rfl, by simp [hm]⟩
    intro z hz
    simp only [dT2, dO, List.cons_append, List.nil_append]
    refine vif rfl ⟨fun ht => ?_, fun hf => ?_⟩
    · rw [ht] at hz
      have hz := Bool.and_eq_true_iff.1 hz.symm
      have hm0 : 0 < m := of_decide_eq_true hz.1
      have hq : p = false := by simpa using hz.2
      subst hq
      obtain ⟨m, rfl⟩ : ∃ k, m = k + 1 := ⟨m - 1, by omega⟩
      rw [grpsR_step m (false, c2) rfl] at i1 i2
      simp only at i1 i2
      have o1 := one_specB (false, c2) (by show c2.length ≤ _; omega)
      have k1 := oneR_lt (false, c2)
      have g1 := oneR_len (false, c2)
      have hE : grpR (false, c2) = grpR (false, c2) := rfl
      conv at hE => rhs; unfold grpR txtR
      generalize oneR (false, c2) = z1 at o1 k1 g1 hE
      obtain ⟨x1, s1⟩ := z1
      have o2 := take_specB s1 x1 (by omega) (by simp only at g1; omega)
      have g2 := takeR_len s1 x1
      simp only at o1 k1 g1 hE
      generalize takeR s1 x1 = z2 at o2 g2 hE
      obtain ⟨nm, s2⟩ := z2
      have o3 := one_specB s2 (by simp only at g2; omega)
      have g3 := oneR_len s2
      simp only at o2 g2 hE
      generalize oneR s2 = z3 at o3 g3 hE
      obtain ⟨un, s3⟩ := z3
      simp only at o3 g3 hE
      rw [hE] at i1 i2
      simp only at i1 i2
      obtain ⟨p1, b1⟩ := s1
      obtain ⟨p2, b2⟩ := s2
      obtain ⟨p3, b3⟩ := s3
      simp only [rdO, fnO, List.cons_append, List.nil_append] at o1 o2 o3
      refine vwp_skip (hNr _ ?_)
      refine vwp_seq_k fun Nt hNt => ?_
      refine vwp_block ?_
      refine vmeet (fun _ : Unit => dT2 ++ [(11, .int .i64 ((m + 1 : Nat) : Int)), (12, .ptr 12 0)])
        (fun _ => dO (p2, b2) ++ [(2, .box 36 [.nil, .nil]), (8, .box 36 [.own 86 acc.length, .own 87 gcc.length]), (86, .arr 4 50 (acc.map entC)), (87, .arr 2 61 (gcc.map grpC)), (12, .box 61 [.str nm, .int .i64 0])]) (fun _ => True) ?_ ?_
      · refine vregord tt_ok mixed hF rfl true [[0, 1, 2, 3, 4, 5, 6, 7], [0, 1, 2, 6, 3, 4, 5, 7], [0, 1, 6, 2, 3, 4, 5, 7], [1, 2, 0, 3, 4, 5, 6, 7], [1, 2, 0, 6, 3, 4, 5, 7], [1, 6, 2, 0, 3, 4, 5, 7]]
          [(62, (.int .i64 (x1 : Int), dO (p1, b1))), (63, (.sl 1 (bytesR nm), [(4, .box 4 [.bool p2]), (1, .box 22 [.sl 1 (bytesR b2)])]))] (by kernel_rfl) ⟨?_, ?_, ?_, ?_, ?_, ?_, trivial⟩ <;> simp only [pickL, go_sem, Int.reduceEq, Int.reduceNe, Int.reduceLT, Int.reduceLE, Nat.reduceEqDiff, Nat.reduceAdd, Nat.reduceMul, Nat.reduceLT, Nat.reduceLeDiff, Nat.reduceSub, reduceCtorEq, reduceIte, Int.reduceToNat, beq_self_eq_true, Bool.and_self, rdO, fnO, dO, dT, dT2]
        all_goals
          refine .inr (bxo [(1000000, 4), (1000001, 1), (1000002, 5), (1000003, 6)] rfl ?_); simp only [go_sem, Int.reduceEq, Int.reduceNe, Int.reduceLT, Int.reduceLE, Nat.reduceEqDiff, Nat.reduceAdd, Nat.reduceMul, Nat.reduceLT, Nat.reduceLeDiff, Nat.reduceSub, reduceCtorEq, reduceIte, Int.reduceToNat, beq_self_eq_true, Bool.and_self, rdO, fnO, dO, dT, dT2]; refine ⟨_, _, o1, ?_⟩; try simp only [go_sem, Int.reduceEq, Int.reduceNe, Int.reduceLT, Int.reduceLE, Nat.reduceEqDiff, Nat.reduceAdd, Nat.reduceMul, Nat.reduceLT, Nat.reduceLeDiff, Nat.reduceSub, reduceCtorEq, reduceIte, Int.reduceToNat, beq_self_eq_true, Bool.and_self, rdO, fnO, dO, dT, dT2]
          refine ⟨rfl, ?_⟩
          refine .inr (bxo [(1000000, 4), (1000001, 1)] rfl ?_); simp only [go_sem, Int.reduceEq, Int.reduceNe, Int.reduceLT, Int.reduceLE, Nat.reduceEqDiff, Nat.reduceAdd, Nat.reduceMul, Nat.reduceLT, Nat.reduceLeDiff, Nat.reduceSub, reduceCtorEq, reduceIte, Int.reduceToNat, beq_self_eq_true, Bool.and_self, rdO, fnO, dO, dT, dT2]; refine ⟨_, _, o2, ?_⟩; try simp only [go_sem, Int.reduceEq, Int.reduceNe, Int.reduceLT, Int.reduceLE, Nat.reduceEqDiff, Nat.reduceAdd, Nat.reduceMul, Nat.reduceLT, Nat.reduceLeDiff, Nat.reduceSub, reduceCtorEq, reduceIte, Int.reduceToNat, beq_self_eq_true, Bool.and_self, rdO, fnO, dO, dT, dT2]
          refine ⟨rfl, ?_⟩
          exact ⟨(), by simp⟩
      intro _ _
      simp only [dT2, dO, List.cons_append, List.nil_append]
      refine vwp_seq_k fun Nv hNv => vreg tt_ok hF rfl ?_; simp only [go_sem, Int.reduceEq, Int.reduceNe, Int.reduceLT, Int.reduceLE, Nat.reduceEqDiff, Nat.reduceAdd, Nat.reduceMul, Nat.reduceLT, Nat.reduceLeDiff, Nat.reduceSub, reduceCtorEq, reduceIte, Int.reduceToNat, beq_self_eq_true, Bool.and_self, rdO, fnO, dO, dT, dT2]
      refine .inr (bxo [(1000000, 4), (1000001, 1), (1000002, 5), (1000003, 6)] rfl ?_); simp only [go_sem, Int.reduceEq, Int.reduceNe, Int.reduceLT, Int.reduceLE, Nat.reduceEqDiff, Nat.reduceAdd, Nat.reduceMul, Nat.reduceLT, Nat.reduceLeDiff, Nat.reduceSub, reduceCtorEq, reduceIte, Int.reduceToNat, beq_self_eq_true, Bool.and_self, rdO, fnO, dO, dT, dT2]; refine ⟨_, _, o3, ?_⟩; try simp only [go_sem, Int.reduceEq, Int.reduceNe, Int.reduceLT, Int.reduceLE, Nat.reduceEqDiff, Nat.reduceAdd, Nat.reduceMul, Nat.reduceLT, Nat.reduceLeDiff, Nat.reduceSub, reduceCtorEq, reduceIte, Int.reduceToNat, beq_self_eq_true, Bool.and_self, rdO, fnO, dO, dT, dT2]
      refine hNv _ (VWp.keep [1,2,4,5,6,8,11,12] [4,1,5,6,2,8,86,87,12] ?_); simp only [go_sem, Int.reduceEq, Int.reduceNe, Int.reduceLT, Int.reduceLE, Nat.reduceEqDiff, Nat.reduceAdd, Nat.reduceMul, Nat.reduceLT, Nat.reduceLeDiff, Nat.reduceSub, reduceCtorEq, reduceIte, Int.reduceToNat, beq_self_eq_true, Bool.and_self, rdO, fnO, dO, dT, dT2]
      refine vreg tt_ok hF rfl ?_; simp only [go_sem, Int.reduceEq, Int.reduceNe, Int.reduceLT, Int.reduceLE, Nat.reduceEqDiff, Nat.reduceAdd, Nat.reduceMul, Nat.reduceLT, Nat.reduceLeDiff, Nat.reduceSub, reduceCtorEq, reduceIte, Int.reduceToNat, beq_self_eq_true, Bool.and_self, rdO, fnO, dO, dT, dT2]
      refine ⟨by omega, ?_⟩
      refine hNt _ (VWp.keep [1,2,4,5,6,8,11] [4,1,5,6,2,8,86,87] ?_); simp only [go_sem, Int.reduceEq, Int.reduceNe, Int.reduceLT, Int.reduceLE, Nat.reduceEqDiff, Nat.reduceAdd, Nat.reduceMul, Nat.reduceLT, Nat.reduceLeDiff, Nat.reduceSub, reduceCtorEq, reduceIte, Int.reduceToNat, beq_self_eq_true, Bool.and_self, rdO, fnO, dO, dT, dT2]
      refine vreg tt_ok hF rfl ?_; simp only [go_sem, Int.reduceEq, Int.reduceNe, Int.reduceLT, Int.reduceLE, Nat.reduceEqDiff, Nat.reduceAdd, Nat.reduceMul, Nat.reduceLT, Nat.reduceLeDiff, Nat.reduceSub, reduceCtorEq, reduceIte, Int.reduceToNat, beq_self_eq_true, Bool.and_self, rdO, fnO, dO, dT, dT2]
      rw [wrap_i64 (by omega) (by omega)]
      refine ⟨(m, (p3, b3), gcc ++ [⟨nm, (un : Int)⟩]), ⟨by simpa using i1, i2, by simp only at g1 g2 g3; show b3.length ≤ b.length; omega, by simp; omega⟩, by simp, ?_⟩
      simp [grpC]
    · rw [hf] at hz
      have hstop : m = 0 ∨ p = true := by
        rcases Nat.eq_zero_or_pos m with h | h
        · exact .inl h
        · right; rw [decide_eq_true h] at hz; simpa using hz
      rw [grpsR_stop m (p, c2) hstop] at i1 i2
      simp only [List.append_nil] at i1 i2
      subst i1 i2
      clear hz hf hstop
      refine vwp_exit ?_
      simp only [go_sem, Int.reduceEq, Int.reduceNe, Int.reduceLT, Int.reduceLE, Nat.reduceEqDiff, Nat.reduceAdd, Nat.reduceMul, Nat.reduceLT, Nat.reduceLeDiff, Nat.reduceSub, reduceCtorEq, reduceIte, Int.reduceToNat, beq_self_eq_true, Bool.and_self, rdO, fnO, dO, dT, dT2]
      refine hNp _ (VWp.keep [1,2,4,8] [4,1,2,8,86,87] ?_); simp only [go_sem, Int.reduceEq, Int.reduceNe, Int.reduceLT, Int.reduceLE, Nat.reduceEqDiff, Nat.reduceAdd, Nat.reduceMul, Nat.reduceLT, Nat.reduceLeDiff, Nat.reduceSub, reduceCtorEq, reduceIte, Int.reduceToNat, beq_self_eq_true, Bool.and_self, rdO, fnO, dO, dT, dT2]
      refine vwp_seq_k fun Nw hNw => ?_
      refine vmeet (fun z : Bool => [(2, .ptr 2 0), (8, .ptr 8 0), (85, .bool z)])
        (fun _ => [(2, .box 36 [.nil, .nil]), (8, .box 36 [.own 86 acc.length, .own 87 gcc.length]), (86, .arr 4 50 (acc.map entC)), (87, .arr 2 61 (gcc.map grpC))]) (fun z => z = (p || decide (0 < c2.length) || !validC ⟨acc, gcc⟩)) ?_ ?_
      · cases p with
        | true =>
          refine vreg tt_ok hF rfl ?_; simp only [go_sem, Int.reduceEq, Int.reduceNe, Int.reduceLT, Int.reduceLE, Nat.reduceEqDiff, Nat.reduceAdd, Nat.reduceMul, Nat.reduceLT, Nat.reduceLeDiff, Nat.reduceSub, reduceCtorEq, reduceIte, Int.reduceToNat, beq_self_eq_true, Bool.and_self, rdO, fnO, dO, dT, dT2]
          exact ⟨_, rfl, by simp⟩
        | false =>
          by_cases hl : 0 < c2.length
          · have f1 : decide ((0 : Int) < ((bytesR c2).length : Int)) = true := decide_eq_true (by rw [bytesR_len]; omega)
            refine vreg tt_ok hF rfl ?_; simp only [go_sem, Int.reduceEq, Int.reduceNe, Int.reduceLT, Int.reduceLE, Nat.reduceEqDiff, Nat.reduceAdd, Nat.reduceMul, Nat.reduceLT, Nat.reduceLeDiff, Nat.reduceSub, reduceCtorEq, reduceIte, Int.reduceToNat, beq_self_eq_true, Bool.and_self, rdO, fnO, dO, dT, dT2, f1]
            exact ⟨_, rfl, by simp [hl]⟩
          · have f1 : decide ((0 : Int) < ((bytesR c2).length : Int)) = false := decide_eq_false (by rw [bytesR_len]; omega)
            refine vreg tt_ok hF rfl ?_; simp only [go_sem, Int.reduceEq, Int.reduceNe, Int.reduceLT, Int.reduceLE, Nat.reduceEqDiff, Nat.reduceAdd, Nat.reduceMul, Nat.reduceLT, Nat.reduceLeDiff, Nat.reduceSub, reduceCtorEq, reduceIte, Int.reduceToNat, beq_self_eq_true, Bool.and_self, rdO, fnO, dO, dT, dT2, f1]
            cases hv : validC ⟨acc, gcc⟩ with
            | false =>
              refine .inl ⟨_, Check_at (c := ⟨acc, gcc⟩) (k := 1) (by rw [hv]; rfl), ?_⟩; try simp only [go_sem, Int.reduceEq, Int.reduceNe, Int.reduceLT, Int.reduceLE, Nat.reduceEqDiff, Nat.reduceAdd, Nat.reduceMul, Nat.reduceLT, Nat.reduceLeDiff, Nat.reduceSub, reduceCtorEq, reduceIte, Int.reduceToNat, beq_self_eq_true, Bool.and_self, rdO, fnO, dO, dT, dT2]
              exact ⟨_, rfl, by simp [hl]⟩
            | true =>
              refine .inl ⟨_, Check_at (c := ⟨acc, gcc⟩) (k := 0) (by rw [hv]; rfl), ?_⟩; try simp only [go_sem, Int.reduceEq, Int.reduceNe, Int.reduceLT, Int.reduceLE, Nat.reduceEqDiff, Nat.reduceAdd, Nat.reduceMul, Nat.reduceLT, Nat.reduceLeDiff, Nat.reduceSub, reduceCtorEq, reduceIte, Int.reduceToNat, beq_self_eq_true, Bool.and_self, rdO, fnO, dO, dT, dT2]
              exact ⟨_, rfl, by simp [hl]⟩
      intro z hz
      rw [← hz] at hR
      refine vif rfl ⟨fun ht => ?_, fun hf => ?_⟩
      · rw [ht, if_pos rfl] at hR
        refine vwp_seq_k fun Ny hNy => vreg tt_ok hF rfl ?_; simp only [go_sem, Int.reduceEq, Int.reduceNe, Int.reduceLT, Int.reduceLE, Nat.reduceEqDiff, Nat.reduceAdd, Nat.reduceMul, Nat.reduceLT, Nat.reduceLeDiff, Nat.reduceSub, reduceCtorEq, reduceIte, Int.reduceToNat, beq_self_eq_true, Bool.and_self, rdO, fnO, dO, dT, dT2]
        refine hNy _ (VWp.keep [2,3] [2] ?_); simp only [go_sem, Int.reduceEq, Int.reduceNe, Int.reduceLT, Int.reduceLE, Nat.reduceEqDiff, Nat.reduceAdd, Nat.reduceMul, Nat.reduceLT, Nat.reduceLeDiff, Nat.reduceSub, reduceCtorEq, reduceIte, Int.reduceToNat, beq_self_eq_true, Bool.and_self, rdO, fnO, dO, dT, dT2]
        refine vwp_ret ?_
        simp only [go_sem, Int.reduceEq, Int.reduceNe, Int.reduceLT, Int.reduceLE, Nat.reduceEqDiff, Nat.reduceAdd, Nat.reduceMul, Nat.reduceLT, Nat.reduceLeDiff, Nat.reduceSub, reduceCtorEq, reduceIte, Int.reduceToNat, beq_self_eq_true, Bool.and_self, rdO, fnO, dO, dT, dT2]
        rw [hR]
        exact LeV.tup ⟨agg2 (LeV.nil 4) (LeV.nil 2), LeV.refl _, trivial⟩
      · rw [hf, if_neg (by decide)] at hR
        refine vwp_skip (hNw _ ?_)
        refine vwp_seq_k fun Nz hNz => vreg tt_ok hF rfl ?_; simp only [go_sem, Int.reduceEq, Int.reduceNe, Int.reduceLT, Int.reduceLE, Nat.reduceEqDiff, Nat.reduceAdd, Nat.reduceMul, Nat.reduceLT, Nat.reduceLeDiff, Nat.reduceSub, reduceCtorEq, reduceIte, Int.reduceToNat, beq_self_eq_true, Bool.and_self, rdO, fnO, dO, dT, dT2]
        refine hNz _ (VWp.keep [2,3] [2,86,87] ?_); simp only [go_sem, Int.reduceEq, Int.reduceNe, Int.reduceLT, Int.reduceLE, Nat.reduceEqDiff, Nat.reduceAdd, Nat.reduceMul, Nat.reduceLT, Nat.reduceLeDiff, Nat.reduceSub, reduceCtorEq, reduceIte, Int.reduceToNat, beq_self_eq_true, Bool.and_self, rdO, fnO, dO, dT, dT2]
        refine vwp_ret ?_
        simp only [go_sem, Int.reduceEq, Int.reduceNe, Int.reduceLT, Int.reduceLE, Nat.reduceEqDiff, Nat.reduceAdd, Nat.reduceMul, Nat.reduceLT, Nat.reduceLeDiff, Nat.reduceSub, reduceCtorEq, reduceIte, Int.reduceToNat, beq_self_eq_true, Bool.and_self, rdO, fnO, dO, dT, dT2]
        rw [hR]
        exact LeV.refl _
end Go.Proofs.YtldkmclfhjcicaaDoor

import Derived.Outline
import Derived.Test.YtnaljgmcpagbbaaGreatDoorKK
import Derived.Test.YtnaljgmcpagbbaaGreatDoorKP

/- JclParts. -/
-- SIMP: beq_self_eq_true, Bool.and_self, List.take_length, decide_true, Bool.not_true, Bool.not_false
namespace Go.Proofs.YtnaljgmcpagbbaaGreatDoor
open Go.RowKit
set_option linter.unusedVariables false
set_option linter.unusedSimpArgs false
theorem strC_refs (l : List Jb) : V.refsL (l.map V.str) = [] := by
  induction l with
  | nil => rfl
  | cons a t ih => rw [List.map_cons]; show [] ++ V.refsL (t.map V.str) = []; rw [ih]; rfl
theorem strC_cvt {os : Nat → Option Ob} {f : Nat → Option Nat} (l : List Jb) : cvtL os f (l.map V.str) = some (l.map V.str) := by
  induction l with
  | nil => rfl
  | cons a t ih => rw [List.map_cons, cvtL, ih]; rfl
attribute [go_sem] strC_refs strC_cvt
set_option maxHeartbeats 8000000 in
set_option maxRecDepth 4000 in
set_option maxHeartbeats 8000000 in
set_option maxRecDepth 4000 in
theorem Copy_spec (l : List StmJ) (hl : l.length ≤ 1000000) (hs : ∀ s ∈ l, SmS s) : Spec Tryz.prog 5 [stmsV l] (stmsV l) := by
  refine spec_of tt_ok Tryz.func5 rfl (by decide) Tryz.ntmps5 (congrArg Array.toList Tryz.results5) (by simp) (by decide) rfl rfl (fun F hF => ?_)
  refine vwp_seq_k fun Na hNa => vreg tt_ok hF rfl ?_; simp only [go_sem, Int.reduceEq, Int.reduceNe, Int.reduceLT, Int.reduceLE, Nat.reduceEqDiff, Nat.reduceAdd, Nat.reduceMul, Nat.reduceLT, Nat.reduceLeDiff, Nat.reduceSub, reduceCtorEq, reduceIte, Int.reduceToNat, beq_self_eq_true, Bool.and_self, List.take_length, decide_true, Bool.not_true, Bool.not_false]
  refine hNa _ (VWp.keepR [0] [] tt_ok hF rfl fun Nb hNb => ?_); simp only [go_sem, Int.reduceEq, Int.reduceNe, Int.reduceLT, Int.reduceLE, Nat.reduceEqDiff, Nat.reduceAdd, Nat.reduceMul, Nat.reduceLT, Nat.reduceLeDiff, Nat.reduceSub, reduceCtorEq, reduceIte, Int.reduceToNat, beq_self_eq_true, Bool.and_self, List.take_length, decide_true, Bool.not_true, Bool.not_false]
  refine hNb _ (VWp.keep [0,3] [] ?_); simp only [go_sem, Int.reduceEq, Int.reduceNe, Int.reduceLT, Int.reduceLE, Nat.reduceEqDiff, Nat.reduceAdd, Nat.reduceMul, Nat.reduceLT, Nat.reduceLeDiff, Nat.reduceSub, reduceCtorEq, reduceIte, Int.reduceToNat, beq_self_eq_true, Bool.and_self, List.take_length, decide_true, Bool.not_true, Bool.not_false]
  refine vwp_seq_k fun Nc hNc => ?_
  refine vwp_seq_k fun Nd hNd => vreg tt_ok hF rfl ?_; simp only [go_sem, Int.reduceEq, Int.reduceNe, Int.reduceLT, Int.reduceLE, Nat.reduceEqDiff, Nat.reduceAdd, Nat.reduceMul, Nat.reduceLT, Nat.reduceLeDiff, Nat.reduceSub, reduceCtorEq, reduceIte, Int.reduceToNat, beq_self_eq_true, Bool.and_self, List.take_length, decide_true, Bool.not_true, Bool.not_false]
  refine hNd _ (VWp.keep [0,3,4] [] ?_); simp only [go_sem, Int.reduceEq, Int.reduceNe, Int.reduceLT, Int.reduceLE, Nat.reduceEqDiff, Nat.reduceAdd, Nat.reduceMul, Nat.reduceLT, Nat.reduceLeDiff, Nat.reduceSub, reduceCtorEq, reduceIte, Int.reduceToNat, beq_self_eq_true, Bool.and_self, List.take_length, decide_true, Bool.not_true, Bool.not_false]
  refine VWp.adopt 500000 5 34 (x := 3) rfl rfl (by decide) ?_ (closed_of (by simp only [go_sem, Int.reduceEq, Int.reduceNe, Int.reduceLT, Int.reduceLE, Nat.reduceEqDiff, Nat.reduceAdd, Nat.reduceMul, Nat.reduceLT, Nat.reduceLeDiff, Nat.reduceSub, reduceCtorEq, reduceIte, Int.reduceToNat, beq_self_eq_true, Bool.and_self, List.take_length, decide_true, Bool.not_true, Bool.not_false]) (by simp only [go_sem, Int.reduceEq, Int.reduceNe, Int.reduceLT, Int.reduceLE, Nat.reduceEqDiff, Nat.reduceAdd, Nat.reduceMul, Nat.reduceLT, Nat.reduceLeDiff, Nat.reduceSub, reduceCtorEq, reduceIte, Int.reduceToNat, beq_self_eq_true, Bool.and_self, List.take_length, decide_true, Bool.not_true, Bool.not_false]))
  refine VWp.keep [0,3,4] [500000] ?_; simp only [go_sem, Int.reduceEq, Int.reduceNe, Int.reduceLT, Int.reduceLE, Nat.reduceEqDiff, Nat.reduceAdd, Nat.reduceMul, Nat.reduceLT, Nat.reduceLeDiff, Nat.reduceSub, reduceCtorEq, reduceIte, Int.reduceToNat, beq_self_eq_true, Bool.and_self, List.take_length, decide_true, Bool.not_true, Bool.not_false]
  refine vwp_block (vloop (fun z : Nat × List StmJ => [(0, stmsV l), (3, .own 500000 z.2.length), (4, .int .i64 (z.1 : Int))]) (fun z => [(500000, .arr 5 34 (z.2.map stmC))]) (fun z => z.1 ≤ l.length ∧ z.2 = l.take z.1) (fun z => l.length - z.1) (0, []) ⟨Nat.zero_le _, rfl⟩ (by simp only [go_sem, Int.reduceEq, Int.reduceNe, Int.reduceLT, Int.reduceLE, Nat.reduceEqDiff, Nat.reduceAdd, Nat.reduceMul, Nat.reduceLT, Nat.reduceLeDiff, Nat.reduceSub, reduceCtorEq, reduceIte, Int.reduceToNat, beq_self_eq_true, Bool.and_self, List.take_length, decide_true, Bool.not_true, Bool.not_false, List.length_map]) ?_)
  rintro ⟨m, out⟩ ⟨m1, m2⟩
  have m1 : m ≤ l.length := m1
  have m2 : out = l.take m := m2
  have hol : out.length = m := by rw [m2, List.length_take]; omega
  try dsimp only
  refine vwp_seq_k fun Ne hNe => ?_
  refine vwp_seq_k fun Nf hNf => vreg tt_ok hF rfl ?_; simp only [go_sem, Int.reduceEq, Int.reduceNe, Int.reduceLT, Int.reduceLE, Nat.reduceEqDiff, Nat.reduceAdd, Nat.reduceMul, Nat.reduceLT, Nat.reduceLeDiff, Nat.reduceSub, reduceCtorEq, reduceIte, Int.reduceToNat, beq_self_eq_true, Bool.and_self, List.take_length, decide_true, Bool.not_true, Bool.not_false, List.length_map]
  refine hNf _ (VWp.keep [0,3,4,11] [500000] ?_); simp only [go_sem, Int.reduceEq, Int.reduceNe, Int.reduceLT, Int.reduceLE, Nat.reduceEqDiff, Nat.reduceAdd, Nat.reduceMul, Nat.reduceLT, Nat.reduceLeDiff, Nat.reduceSub, reduceCtorEq, reduceIte, Int.reduceToNat, beq_self_eq_true, Bool.and_self, List.take_length, decide_true, Bool.not_true, Bool.not_false]
  refine vif rfl ⟨fun ht => ?_, fun hf => ?_⟩
  · have hlt : m < l.length := by have := of_decide_eq_true ht; omega
    obtain ⟨s, hg⟩ : ∃ s, l[m]? = some s := ⟨_, List.getElem?_eq_getElem hlt⟩
    have hss := hs s (List.mem_of_getElem? hg)
    have hrow : (l.map stmC).getD m [] = [.int .i64 s.line, .str s.name, .str s.op, .sl 3 (s.params.map prmC), .sl 1 (s.data.map fun w => [V.str w])] := by simp [hg, stmC, prmsV, strsV]
    have hpi : (0 : Int) ≤ (m : Int) ∧ (m : Int) < (l.length : Int) := ⟨by omega, by omega⟩
    have hstep : out ++ [s] = l.take (m + 1) := by rw [m2, List.take_add_one, hg]; rfl
    have hdl := hss.dl
    have hppl := hss.pl
    refine vwp_skip (hNe _ ?_)
    refine vwp_seq_k fun Ng hNg => ?_
    refine vwp_block ?_
    refine vwp_seq_k fun Nh hNh => vreg tt_ok hF rfl ?_; simp only [go_sem, Int.reduceEq, Int.reduceNe, Int.reduceLT, Int.reduceLE, Nat.reduceEqDiff, Nat.reduceAdd, Nat.reduceMul, Nat.reduceLT, Nat.reduceLeDiff, Nat.reduceSub, reduceCtorEq, reduceIte, Int.reduceToNat, beq_self_eq_true, Bool.and_self, List.take_length, decide_true, Bool.not_true, Bool.not_false, List.length_map, hpi, hrow]
    refine hNh _ (VWp.keepR [0,3,4,5] [5,500000] tt_ok hF rfl fun Ni hNi => ?_); simp only [go_sem, Int.reduceEq, Int.reduceNe, Int.reduceLT, Int.reduceLE, Nat.reduceEqDiff, Nat.reduceAdd, Nat.reduceMul, Nat.reduceLT, Nat.reduceLeDiff, Nat.reduceSub, reduceCtorEq, reduceIte, Int.reduceToNat, beq_self_eq_true, Bool.and_self, List.take_length, decide_true, Bool.not_true, Bool.not_false]
    refine hNi _ (VWp.keep [0,3,4,5] [5,500000] ?_); simp only [go_sem, Int.reduceEq, Int.reduceNe, Int.reduceLT, Int.reduceLE, Nat.reduceEqDiff, Nat.reduceAdd, Nat.reduceMul, Nat.reduceLT, Nat.reduceLeDiff, Nat.reduceSub, reduceCtorEq, reduceIte, Int.reduceToNat, beq_self_eq_true, Bool.and_self, List.take_length, decide_true, Bool.not_true, Bool.not_false]
    refine vwp_seq_k fun Nj hNj => ?_
    refine vwp_seq_k fun Nk hNk => vreg tt_ok hF rfl ?_; simp only [go_sem, Int.reduceEq, Int.reduceNe, Int.reduceLT, Int.reduceLE, Nat.reduceEqDiff, Nat.reduceAdd, Nat.reduceMul, Nat.reduceLT, Nat.reduceLeDiff, Nat.reduceSub, reduceCtorEq, reduceIte, Int.reduceToNat, beq_self_eq_true, Bool.and_self, List.take_length, decide_true, Bool.not_true, Bool.not_false]
    refine hNk _ (VWp.keep [0,3,4,5,6] [5,500000] ?_); simp only [go_sem, Int.reduceEq, Int.reduceNe, Int.reduceLT, Int.reduceLE, Nat.reduceEqDiff, Nat.reduceAdd, Nat.reduceMul, Nat.reduceLT, Nat.reduceLeDiff, Nat.reduceSub, reduceCtorEq, reduceIte, Int.reduceToNat, beq_self_eq_true, Bool.and_self, List.take_length, decide_true, Bool.not_true, Bool.not_false]
    refine VWp.adoptB 500001 3 37 (o := 5) (i := 3) rfl rfl rfl (by decide) ?_
    refine VWp.keep [0,3,4,5,6] [5,500000,500001] ?_; simp only [go_sem, Int.reduceEq, Int.reduceNe, Int.reduceLT, Int.reduceLE, Nat.reduceEqDiff, Nat.reduceAdd, Nat.reduceMul, Nat.reduceLT, Nat.reduceLeDiff, Nat.reduceSub, reduceCtorEq, reduceIte, Int.reduceToNat, beq_self_eq_true, Bool.and_self, List.take_length, decide_true, Bool.not_true, Bool.not_false]
    refine vwp_block (vloop (fun z : Nat × List PrmJ => [(0, stmsV l), (3, .own 500000 out.length), (4, .int .i64 (m : Int)), (5, .ptr 5 0), (6, .int .i64 (z.1 : Int))])
      (fun z => [(5, .box 34 [.int .i64 s.line, .str s.name, .str s.op, .own 500001 z.2.length, strsV s.data]), (500000, .arr 5 34 (out.map stmC)), (500001, .arr 3 37 (z.2.map prmC))])
      (fun z => z.1 ≤ s.params.length ∧ z.2 = s.params.take z.1) (fun z => s.params.length - z.1) (0, []) ⟨Nat.zero_le _, rfl⟩ (by simp only [go_sem, Int.reduceEq, Int.reduceNe, Int.reduceLT, Int.reduceLE, Nat.reduceEqDiff, Nat.reduceAdd, Nat.reduceMul, Nat.reduceLT, Nat.reduceLeDiff, Nat.reduceSub, reduceCtorEq, reduceIte, Int.reduceToNat, beq_self_eq_true, Bool.and_self, List.take_length, decide_true, Bool.not_true, Bool.not_false, List.length_map]) ?_)
    rintro ⟨q, ps⟩ ⟨q1, q2⟩
    have q1 : q ≤ s.params.length := q1
    have q2 : ps = s.params.take q := q2
    have hpsl : ps.length = q := by rw [q2, List.length_take]; omega
    try dsimp only
    refine vwp_seq_k fun Nl hNl => ?_
    refine vwp_seq_k fun Nm hNm => vreg tt_ok hF rfl ?_; simp only [go_sem, Int.reduceEq, Int.reduceNe, Int.reduceLT, Int.reduceLE, Nat.reduceEqDiff, Nat.reduceAdd, Nat.reduceMul, Nat.reduceLT, Nat.reduceLeDiff, Nat.reduceSub, reduceCtorEq, reduceIte, Int.reduceToNat, beq_self_eq_true, Bool.and_self, List.take_length, decide_true, Bool.not_true, Bool.not_false, List.length_map, hpi, hrow]
    refine hNm _ (VWp.keep [0,3,4,5,6,26] [5,500000,500001] ?_); simp only [go_sem, Int.reduceEq, Int.reduceNe, Int.reduceLT, Int.reduceLE, Nat.reduceEqDiff, Nat.reduceAdd, Nat.reduceMul, Nat.reduceLT, Nat.reduceLeDiff, Nat.reduceSub, reduceCtorEq, reduceIte, Int.reduceToNat, beq_self_eq_true, Bool.and_self, List.take_length, decide_true, Bool.not_true, Bool.not_false]
    refine vif rfl ⟨fun ht => ?_, fun hf => ?_⟩
    · have hqlt : q < s.params.length := by have := of_decide_eq_true ht; omega
      obtain ⟨p, hgp⟩ : ∃ p, s.params[q]? = some p := ⟨_, List.getElem?_eq_getElem hqlt⟩
      have hpp := (hss.pp p (List.mem_of_getElem? hgp)).2.2
      have hrow2 : (s.params.map prmC).getD q [] = [.str p.key, .str p.value, .sl 1 (p.parts.map fun w => [V.str w])] := by simp [hgp, prmC, strsV]
      have hpq : (0 : Int) ≤ (q : Int) ∧ (q : Int) < (s.params.length : Int) := ⟨by omega, by omega⟩
      have hstep2 : ps ++ [p] = s.params.take (q + 1) := by rw [q2, List.take_add_one, hgp]; rfl
      refine vwp_skip (hNl _ ?_)
      refine vwp_seq_k fun Nn hNn => ?_
      refine vwp_block ?_
      refine vwp_seq_k fun No hNo => vreg tt_ok hF rfl ?_; simp only [go_sem, Int.reduceEq, Int.reduceNe, Int.reduceLT, Int.reduceLE, Nat.reduceEqDiff, Nat.reduceAdd, Nat.reduceMul, Nat.reduceLT, Nat.reduceLeDiff, Nat.reduceSub, reduceCtorEq, reduceIte, Int.reduceToNat, beq_self_eq_true, Bool.and_self, List.take_length, decide_true, Bool.not_true, Bool.not_false, List.length_map, hpi, hrow, hpq, hrow2]
      refine hNo _ (VWp.keepR [0,3,4,5,6,7] [5,7,500000,500001] tt_ok hF rfl fun Np hNp => ?_); simp only [go_sem, Int.reduceEq, Int.reduceNe, Int.reduceLT, Int.reduceLE, Nat.reduceEqDiff, Nat.reduceAdd, Nat.reduceMul, Nat.reduceLT, Nat.reduceLeDiff, Nat.reduceSub, reduceCtorEq, reduceIte, Int.reduceToNat, beq_self_eq_true, Bool.and_self, List.take_length, decide_true, Bool.not_true, Bool.not_false]
      refine ⟨by omega, ?_⟩
      refine hNp _ ?_
      refine VWp.lookB 7 2 (d := 37) rfl rfl rfl (by simp) ?_
      refine VWp.keep [0,3,4,5,6,7] [5,7,500000,500001] ?_; simp only [go_sem, Int.reduceEq, Int.reduceNe, Int.reduceLT, Int.reduceLE, Nat.reduceEqDiff, Nat.reduceAdd, Nat.reduceMul, Nat.reduceLT, Nat.reduceLeDiff, Nat.reduceSub, reduceCtorEq, reduceIte, Int.reduceToNat, beq_self_eq_true, Bool.and_self, List.take_length, decide_true, Bool.not_true, Bool.not_false]
      refine vreg tt_ok hF rfl ?_; simp only [go_sem, Int.reduceEq, Int.reduceNe, Int.reduceLT, Int.reduceLE, Nat.reduceEqDiff, Nat.reduceAdd, Nat.reduceMul, Nat.reduceLT, Nat.reduceLeDiff, Nat.reduceSub, reduceCtorEq, reduceIte, Int.reduceToNat, beq_self_eq_true, Bool.and_self, List.take_length, decide_true, Bool.not_true, Bool.not_false]
      refine ⟨by omega, ?_⟩
      refine hNn _ (VWp.keep [0,3,4,5,6] [5,500000,500001] ?_); simp only [go_sem, Int.reduceEq, Int.reduceNe, Int.reduceLT, Int.reduceLE, Nat.reduceEqDiff, Nat.reduceAdd, Nat.reduceMul, Nat.reduceLT, Nat.reduceLeDiff, Nat.reduceSub, reduceCtorEq, reduceIte, Int.reduceToNat, beq_self_eq_true, Bool.and_self, List.take_length, decide_true, Bool.not_true, Bool.not_false]
      refine vreg tt_ok hF rfl ?_; simp only [go_sem, Int.reduceEq, Int.reduceNe, Int.reduceLT, Int.reduceLE, Nat.reduceEqDiff, Nat.reduceAdd, Nat.reduceMul, Nat.reduceLT, Nat.reduceLeDiff, Nat.reduceSub, reduceCtorEq, reduceIte, Int.reduceToNat, beq_self_eq_true, Bool.and_self, List.take_length, decide_true, Bool.not_true, Bool.not_false]
      rw [wrap_i64 (by omega) (by omega)]
      exact ⟨(q + 1, ps ++ [p]), ⟨by simp only; omega, hstep2⟩, by simp only; omega, by simp [prmC, strsV]⟩
    · have hq : q = s.params.length := by have := of_decide_eq_false hf; omega
      have hps : ps = s.params := by rw [q2, hq, List.take_length]
      subst hps
      refine vwp_exit ?_
      simp only [go_sem, Int.reduceEq, Int.reduceNe, Int.reduceLT, Int.reduceLE, Nat.reduceEqDiff, Nat.reduceAdd, Nat.reduceMul, Nat.reduceLT, Nat.reduceLeDiff, Nat.reduceSub, reduceCtorEq, reduceIte, Int.reduceToNat, beq_self_eq_true, Bool.and_self, List.take_length, decide_true, Bool.not_true, Bool.not_false]
      refine hNj _ (VWp.keep [0,3,4,5] [5,500000,500001] ?_); simp only [go_sem, Int.reduceEq, Int.reduceNe, Int.reduceLT, Int.reduceLE, Nat.reduceEqDiff, Nat.reduceAdd, Nat.reduceMul, Nat.reduceLT, Nat.reduceLeDiff, Nat.reduceSub, reduceCtorEq, reduceIte, Int.reduceToNat, beq_self_eq_true, Bool.and_self, List.take_length, decide_true, Bool.not_true, Bool.not_false]
      refine vwp_seq_k fun Nq hNq => vreg tt_ok hF rfl ?_; simp only [go_sem, Int.reduceEq, Int.reduceNe, Int.reduceLT, Int.reduceLE, Nat.reduceEqDiff, Nat.reduceAdd, Nat.reduceMul, Nat.reduceLT, Nat.reduceLeDiff, Nat.reduceSub, reduceCtorEq, reduceIte, Int.reduceToNat, beq_self_eq_true, Bool.and_self, List.take_length, decide_true, Bool.not_true, Bool.not_false, List.length_map, hpi, hrow]
      refine ⟨by omega, ?_⟩
      refine hNq _ ?_
      refine VWp.lookB 5 3 (d := 500001) rfl rfl rfl (by simp) ?_
      refine VWp.lookB 5 4 (d := 48) rfl rfl rfl (by simp) ?_
      refine VWp.keep [0,3,4,5] [5,500000] ?_; simp only [go_sem, Int.reduceEq, Int.reduceNe, Int.reduceLT, Int.reduceLE, Nat.reduceEqDiff, Nat.reduceAdd, Nat.reduceMul, Nat.reduceLT, Nat.reduceLeDiff, Nat.reduceSub, reduceCtorEq, reduceIte, Int.reduceToNat, beq_self_eq_true, Bool.and_self, List.take_length, decide_true, Bool.not_true, Bool.not_false]
      refine vreg tt_ok hF rfl ?_; simp only [go_sem, Int.reduceEq, Int.reduceNe, Int.reduceLT, Int.reduceLE, Nat.reduceEqDiff, Nat.reduceAdd, Nat.reduceMul, Nat.reduceLT, Nat.reduceLeDiff, Nat.reduceSub, reduceCtorEq, reduceIte, Int.reduceToNat, beq_self_eq_true, Bool.and_self, List.take_length, decide_true, Bool.not_true, Bool.not_false]
      refine ⟨by omega, ?_⟩
      refine hNg _ (VWp.keep [0,3,4] [500000] ?_); simp only [go_sem, Int.reduceEq, Int.reduceNe, Int.reduceLT, Int.reduceLE, Nat.reduceEqDiff, Nat.reduceAdd, Nat.reduceMul, Nat.reduceLT, Nat.reduceLeDiff, Nat.reduceSub, reduceCtorEq, reduceIte, Int.reduceToNat, beq_self_eq_true, Bool.and_self, List.take_length, decide_true, Bool.not_true, Bool.not_false]
      refine vreg tt_ok hF rfl ?_; simp only [go_sem, Int.reduceEq, Int.reduceNe, Int.reduceLT, Int.reduceLE, Nat.reduceEqDiff, Nat.reduceAdd, Nat.reduceMul, Nat.reduceLT, Nat.reduceLeDiff, Nat.reduceSub, reduceCtorEq, reduceIte, Int.reduceToNat, beq_self_eq_true, Bool.and_self, List.take_length, decide_true, Bool.not_true, Bool.not_false]
      rw [wrap_i64 (by omega) (by omega)]
      exact ⟨(m + 1, out ++ [s]), ⟨by simp only; omega, hstep⟩, by simp only; omega, by simp [stmC, prmsV, strsV, stmsV]⟩
  · have hm : m = l.length := by have := of_decide_eq_false hf; omega
    have ho : out = l := by rw [m2, hm, List.take_length]
    subst ho
    refine vwp_exit ?_
    simp only [go_sem, Int.reduceEq, Int.reduceNe, Int.reduceLT, Int.reduceLE, Nat.reduceEqDiff, Nat.reduceAdd, Nat.reduceMul, Nat.reduceLT, Nat.reduceLeDiff, Nat.reduceSub, reduceCtorEq, reduceIte, Int.reduceToNat, beq_self_eq_true, Bool.and_self, List.take_length, decide_true, Bool.not_true, Bool.not_false]
    refine hNc _ (VWp.keepR [3] [500000] tt_ok hF rfl fun Nr hNr => ?_); simp only [go_sem, Int.reduceEq, Int.reduceNe, Int.reduceLT, Int.reduceLE, Nat.reduceEqDiff, Nat.reduceAdd, Nat.reduceMul, Nat.reduceLT, Nat.reduceLeDiff, Nat.reduceSub, reduceCtorEq, reduceIte, Int.reduceToNat, beq_self_eq_true, Bool.and_self, List.take_length, decide_true, Bool.not_true, Bool.not_false]
    refine hNr _ (VWp.keep [2] [500000] ?_); simp only [go_sem, Int.reduceEq, Int.reduceNe, Int.reduceLT, Int.reduceLE, Nat.reduceEqDiff, Nat.reduceAdd, Nat.reduceMul, Nat.reduceLT, Nat.reduceLeDiff, Nat.reduceSub, reduceCtorEq, reduceIte, Int.reduceToNat, beq_self_eq_true, Bool.and_self, List.take_length, decide_true, Bool.not_true, Bool.not_false]
    refine vwp_ret ?_
    simp only [go_sem, Int.reduceEq, Int.reduceNe, Int.reduceLT, Int.reduceLE, Nat.reduceEqDiff, Nat.reduceAdd, Nat.reduceMul, Nat.reduceLT, Nat.reduceLeDiff, Nat.reduceSub, reduceCtorEq, reduceIte, Int.reduceToNat, beq_self_eq_true, Bool.and_self, List.take_length, decide_true, Bool.not_true, Bool.not_false]
    exact LeV.refl _
def spoilC (l : List Jb) (j : Nat) : List V := (l.take j).map (fun w => V.str (w ++ [63])) ++ (l.drop j).map V.str
theorem strQ_refs (l : List Jb) : V.refsL (l.map fun w => V.str (w ++ [63])) = [] := by
  induction l with
  | nil => rfl
  | cons a t ih => rw [List.map_cons]; show [] ++ V.refsL (t.map fun w => V.str (w ++ [63])) = []; rw [ih]; rfl
theorem refsL_app (a b : List V) : V.refsL (a ++ b) = V.refsL a ++ V.refsL b := by
  induction a with
  | nil => rfl
  | cons x a ih => show x.refs ++ V.refsL (a ++ b) = x.refs ++ V.refsL a ++ V.refsL b; rw [ih, List.append_assoc]
theorem spoil_refs (l : List Jb) (j : Nat) : V.refsL (spoilC l j) = [] := by unfold spoilC; rw [refsL_app, strQ_refs, strC_refs]; rfl
attribute [go_sem] spoil_refs
end Go.Proofs.YtnaljgmcpagbbaaGreatDoor

/- The reference of layer 34: parameters written. -/
-- SIMP: beq_self_eq_true, Bool.and_self, List.take_length, decide_true, Bool.not_true, Bool.not_false
namespace Go.Proofs.YtnaljgmcpagbbaaGreatDoor
open Go.RowKit
set_option linter.unusedVariables false
set_option linter.unusedSimpArgs false
def eqO (s : Jb) (l : List Int) (i : Nat) : Option Nat := ((visO s l i).find? fun v => v.2.1 == 61 && v.2.2 == 0).map (·.1)
theorem eqO_cons (c : UInt8) (t : Jb) (x : Int) (l : List Int) (i : Nat) : eqO (c :: t) (x :: l) i = if c == 61 && x == 0 then some i else eqO t l (i + 1) := by
  unfold eqO
  rw [visO]
  by_cases h : x < 0
  · rw [if_pos h, if_neg]
    rw [show (x == 0) = false by simp; omega]; simp
  · rw [if_neg h, List.find?_cons]
    by_cases h2 : (c == 61 && x == 0) = true
    · simp only [h2]; rfl
    · rw [Bool.not_eq_true] at h2
      simp only [h2, Bool.false_eq_true, if_false]
theorem eqO_nil (s : Jb) (i : Nat) : eqO s [] i = none := by unfold eqO; cases s <;> rfl
def eqR (s : Jb) : Option Nat := match plJ s 0 false with | some r => eqO s r.1 0 | none => none
def optI (e : Option Nat) : Int := match e with | some i => (i : Int) | none => -1
theorem eqR_some {s : Jb} {l : List Int} {ok : Bool} (h : plJ s 0 false = some (l, ok)) : eqR s = eqJ s := by
  unfold eqR eqJ eqO
  rw [h, (pl_some h).2.1]
theorem eqR_lt {s : Jb} {i : Nat} (h : eqR s = some i) : i < s.length := by
  cases hp : plJ s 0 false with
  | none => unfold eqR at h; rw [hp] at h; cases h
  | some r => rw [eqR_some hp] at h; exact eqJ_lt s i h
set_option maxHeartbeats 8000000 in
set_option maxRecDepth 4000 in
theorem equals_spec (s : Jb) (hs : s.length ≤ 100000000) : Spec Tryz.prog 64 [.str s] (.int .i64 (optI (eqR s))) := by
  have h1 := places_spec s (by omega)
  obtain ⟨l, ok, hv, hlen, hE⟩ : ∃ (l : List Int) (ok : Bool), plcV (plJ s 0 false) = .tup [intsV l, .bool ok] ∧ l.length ≤ s.length ∧ eqR s = eqO s l 0 := by
    unfold eqR
    cases h : plJ s 0 false with
    | none => exact ⟨[], false, rfl, by simp, (eqO_nil s 0).symm⟩
    | some r => obtain ⟨l, ok⟩ := r; exact ⟨l, ok, rfl, by rw [(pl_some h).1]; omega, rfl⟩
  rw [hv] at h1
  obtain ⟨E, hEe⟩ : ∃ E, eqR s = E := ⟨_, rfl⟩
  rw [hEe] at hE ⊢
  refine spec_of tt_ok Tryz.func64 rfl (by decide) Tryz.ntmps64 (congrArg Array.toList Tryz.results64) (by simp) (by decide) rfl rfl (fun F hF => ?_)
  refine vwp_seq_k fun Na hNa => vreg tt_ok hF rfl ?_; simp only [go_sem, Int.reduceEq, Int.reduceNe, Int.reduceLT, Int.reduceLE, Nat.reduceEqDiff, Nat.reduceAdd, Nat.reduceMul, Nat.reduceLT, Nat.reduceLeDiff, Nat.reduceSub, reduceCtorEq, reduceIte, Int.reduceToNat, beq_self_eq_true, Bool.and_self, List.take_length, decide_true, Bool.not_true, Bool.not_false]
  refine hNa _ (VWp.keepR [0] [] tt_ok hF rfl fun Nb hNb => ?_); simp only [go_sem, Int.reduceEq, Int.reduceNe, Int.reduceLT, Int.reduceLE, Nat.reduceEqDiff, Nat.reduceAdd, Nat.reduceMul, Nat.reduceLT, Nat.reduceLeDiff, Nat.reduceSub, reduceCtorEq, reduceIte, Int.reduceToNat, beq_self_eq_true, Bool.and_self, List.take_length, decide_true, Bool.not_true, Bool.not_false]
  refine .inl ⟨_, h1, ?_⟩; try simp only [go_sem, Int.reduceEq, Int.reduceNe, Int.reduceLT, Int.reduceLE, Nat.reduceEqDiff, Nat.reduceAdd, Nat.reduceMul, Nat.reduceLT, Nat.reduceLeDiff, Nat.reduceSub, reduceCtorEq, reduceIte, Int.reduceToNat, beq_self_eq_true, Bool.and_self, List.take_length, decide_true, Bool.not_true, Bool.not_false]
  refine hNb _ (VWp.keep [0,3] [] ?_); simp only [go_sem, Int.reduceEq, Int.reduceNe, Int.reduceLT, Int.reduceLE, Nat.reduceEqDiff, Nat.reduceAdd, Nat.reduceMul, Nat.reduceLT, Nat.reduceLeDiff, Nat.reduceSub, reduceCtorEq, reduceIte, Int.reduceToNat, beq_self_eq_true, Bool.and_self, List.take_length, decide_true, Bool.not_true, Bool.not_false]
  refine vwp_seq_k fun Nc hNc => ?_
  refine vwp_seq_k fun Nd hNd => vreg tt_ok hF rfl ?_; simp only [go_sem, Int.reduceEq, Int.reduceNe, Int.reduceLT, Int.reduceLE, Nat.reduceEqDiff, Nat.reduceAdd, Nat.reduceMul, Nat.reduceLT, Nat.reduceLeDiff, Nat.reduceSub, reduceCtorEq, reduceIte, Int.reduceToNat, beq_self_eq_true, Bool.and_self, List.take_length, decide_true, Bool.not_true, Bool.not_false]
  refine hNd _ (VWp.keep [0,3,5] [] ?_); simp only [go_sem, Int.reduceEq, Int.reduceNe, Int.reduceLT, Int.reduceLE, Nat.reduceEqDiff, Nat.reduceAdd, Nat.reduceMul, Nat.reduceLT, Nat.reduceLeDiff, Nat.reduceSub, reduceCtorEq, reduceIte, Int.reduceToNat, beq_self_eq_true, Bool.and_self, List.take_length, decide_true, Bool.not_true, Bool.not_false]
  refine vwp_block (vloop (fun m : Nat => [(0, .str s), (3, intsV l), (5, .int .i64 (m : Int))]) (fun _ => []) (fun m => m ≤ l.length ∧ eqO (s.drop m) (l.drop m) m = E) (fun m => l.length - m) 0 ⟨Nat.zero_le _, by simpa using hE.symm⟩ (by simp only [go_sem, Int.reduceEq, Int.reduceNe, Int.reduceLT, Int.reduceLE, Nat.reduceEqDiff, Nat.reduceAdd, Nat.reduceMul, Nat.reduceLT, Nat.reduceLeDiff, Nat.reduceSub, reduceCtorEq, reduceIte, Int.reduceToNat, beq_self_eq_true, Bool.and_self, List.take_length, decide_true, Bool.not_true, Bool.not_false]) ?_)
  rintro m ⟨m1, m2⟩
  refine vwp_seq_k fun Ne hNe => ?_
  refine vwp_seq_k fun Nf hNf => vreg tt_ok hF rfl ?_; simp only [go_sem, Int.reduceEq, Int.reduceNe, Int.reduceLT, Int.reduceLE, Nat.reduceEqDiff, Nat.reduceAdd, Nat.reduceMul, Nat.reduceLT, Nat.reduceLeDiff, Nat.reduceSub, reduceCtorEq, reduceIte, Int.reduceToNat, beq_self_eq_true, Bool.and_self, List.take_length, decide_true, Bool.not_true, Bool.not_false, List.length_map]
  refine hNf _ (VWp.keep [0,3,5,14] [] ?_); simp only [go_sem, Int.reduceEq, Int.reduceNe, Int.reduceLT, Int.reduceLE, Nat.reduceEqDiff, Nat.reduceAdd, Nat.reduceMul, Nat.reduceLT, Nat.reduceLeDiff, Nat.reduceSub, reduceCtorEq, reduceIte, Int.reduceToNat, beq_self_eq_true, Bool.and_self, List.take_length, decide_true, Bool.not_true, Bool.not_false]
  refine vif rfl ⟨fun ht => ?_, fun hf => ?_⟩
  · have hlt : m < l.length := by have := of_decide_eq_true ht; omega
    have hpm : (0 : Int) ≤ (m : Int) ∧ (m : Int) < (s.length : Int) := ⟨by omega, by omega⟩
    have hpl2 : (0 : Int) ≤ (m : Int) ∧ (m : Int) < (l.length : Int) := ⟨by omega, by omega⟩
    have hrow := int_row l m (by omega)
    rw [drop_at s m (by omega), drop_consI l m (by omega), eqO_cons] at m2
    refine vwp_skip (hNe _ ?_)
    refine vwp_seq_k fun Ng hNg => ?_
    refine vwp_block ?_
    refine vmeet (fun y : Bool => [(0, .str s), (3, intsV l), (5, .int .i64 (m : Int)), (27, .bool y)]) (fun _ => []) (fun y => y = (s.getD m 0 == 61 && l.getD m 0 == 0)) ?_ ?_
    · have e2 : decide ((((s.getD m 0).toNat : Nat) : Int) = (61 : Int)) = (s.getD m 0 == 61) := u8eq 61 _
      have e3 : decide (l.getD m 0 = 0) = (l.getD m 0 == 0) := inteq _ _
      generalize (s.getD m 0 == 61) = b2 at e2 ⊢
      generalize (l.getD m 0 == 0) = b3 at e3 ⊢
      cases b2
      all_goals
        refine vreg tt_ok hF rfl ?_; simp only [go_sem, Int.reduceEq, Int.reduceNe, Int.reduceLT, Int.reduceLE, Nat.reduceEqDiff, Nat.reduceAdd, Nat.reduceMul, Nat.reduceLT, Nat.reduceLeDiff, Nat.reduceSub, reduceCtorEq, reduceIte, Int.reduceToNat, beq_self_eq_true, Bool.and_self, List.take_length, decide_true, Bool.not_true, Bool.not_false, hpm, hpl2, hrow, List.length_map, e2, e3]
        exact ⟨_, rfl, by simp⟩
    intro y hy
    rw [← hy] at m2
    refine vif rfl ⟨fun ht => ?_, fun hf => ?_⟩
    · rw [ht, if_pos rfl] at m2
      subst m2
      refine vwp_seq_k fun Ni hNi => vreg tt_ok hF rfl ?_; simp only [go_sem, Int.reduceEq, Int.reduceNe, Int.reduceLT, Int.reduceLE, Nat.reduceEqDiff, Nat.reduceAdd, Nat.reduceMul, Nat.reduceLT, Nat.reduceLeDiff, Nat.reduceSub, reduceCtorEq, reduceIte, Int.reduceToNat, beq_self_eq_true, Bool.and_self, List.take_length, decide_true, Bool.not_true, Bool.not_false]
      refine hNi _ (VWp.keep [2] [] ?_); simp only [go_sem, Int.reduceEq, Int.reduceNe, Int.reduceLT, Int.reduceLE, Nat.reduceEqDiff, Nat.reduceAdd, Nat.reduceMul, Nat.reduceLT, Nat.reduceLeDiff, Nat.reduceSub, reduceCtorEq, reduceIte, Int.reduceToNat, beq_self_eq_true, Bool.and_self, List.take_length, decide_true, Bool.not_true, Bool.not_false]
      refine vwp_ret ?_
      simp only [go_sem, Int.reduceEq, Int.reduceNe, Int.reduceLT, Int.reduceLE, Nat.reduceEqDiff, Nat.reduceAdd, Nat.reduceMul, Nat.reduceLT, Nat.reduceLeDiff, Nat.reduceSub, reduceCtorEq, reduceIte, Int.reduceToNat, beq_self_eq_true, Bool.and_self, List.take_length, decide_true, Bool.not_true, Bool.not_false]
      exact LeV.refl _
    · rw [hf, if_neg (by decide)] at m2
      refine vwp_skip (hNg _ ?_)
      refine vreg tt_ok hF rfl ?_; simp only [go_sem, Int.reduceEq, Int.reduceNe, Int.reduceLT, Int.reduceLE, Nat.reduceEqDiff, Nat.reduceAdd, Nat.reduceMul, Nat.reduceLT, Nat.reduceLeDiff, Nat.reduceSub, reduceCtorEq, reduceIte, Int.reduceToNat, beq_self_eq_true, Bool.and_self, List.take_length, decide_true, Bool.not_true, Bool.not_false]
      rw [wrap_i64 (by omega) (by omega)]
      exact ⟨m + 1, ⟨by omega, m2⟩, by omega, by simp [intsV]⟩
  · have hm : m = l.length := by have := of_decide_eq_false hf; omega
    subst hm
    rw [List.drop_length, eqO_nil] at m2
    subst m2
    refine vwp_exit ?_
    simp only [go_sem, Int.reduceEq, Int.reduceNe, Int.reduceLT, Int.reduceLE, Nat.reduceEqDiff, Nat.reduceAdd, Nat.reduceMul, Nat.reduceLT, Nat.reduceLeDiff, Nat.reduceSub, reduceCtorEq, reduceIte, Int.reduceToNat, beq_self_eq_true, Bool.and_self, List.take_length, decide_true, Bool.not_true, Bool.not_false]
    refine hNc _ (VWp.keepR [] [] tt_ok hF rfl fun Nj hNj => ?_); simp only [go_sem, Int.reduceEq, Int.reduceNe, Int.reduceLT, Int.reduceLE, Nat.reduceEqDiff, Nat.reduceAdd, Nat.reduceMul, Nat.reduceLT, Nat.reduceLeDiff, Nat.reduceSub, reduceCtorEq, reduceIte, Int.reduceToNat, beq_self_eq_true, Bool.and_self, List.take_length, decide_true, Bool.not_true, Bool.not_false]
    refine hNj _ (VWp.keep [2] [] ?_); simp only [go_sem, Int.reduceEq, Int.reduceNe, Int.reduceLT, Int.reduceLE, Nat.reduceEqDiff, Nat.reduceAdd, Nat.reduceMul, Nat.reduceLT, Nat.reduceLeDiff, Nat.reduceSub, reduceCtorEq, reduceIte, Int.reduceToNat, beq_self_eq_true, Bool.and_self, List.take_length, decide_true, Bool.not_true, Bool.not_false]
    refine vwp_ret ?_
    simp only [go_sem, Int.reduceEq, Int.reduceNe, Int.reduceLT, Int.reduceLE, Nat.reduceEqDiff, Nat.reduceAdd, Nat.reduceMul, Nat.reduceLT, Nat.reduceLeDiff, Nat.reduceSub, reduceCtorEq, reduceIte, Int.reduceToNat, beq_self_eq_true, Bool.and_self, List.take_length, decide_true, Bool.not_true, Bool.not_false]
    exact LeV.refl _
def prmR (s : Jb) : V := match eqR s with
  | some i => if keyJ (s.take i) then .tup [prmV ⟨s.take i, s.drop (i + 1), (partsJ (s.drop (i + 1))).getD []⟩, .bool (valueJ (s.drop (i + 1)))] else .tup [prmV ⟨s.take i, [], []⟩, .bool false]
  | none => .tup [prmV ⟨[], s, (partsJ s).getD []⟩, .bool (valueJ s)]
theorem prmR_refs (s : Jb) : (prmR s).refs = [] := by
  unfold prmR
  split
  · split <;> rfl
  · rfl
theorem prm_ok (s : Jb) : (∃ p, parseJ s = some p ∧ prmR s = .tup [prmV p, .bool true]) ∨ (parseJ s = none ∧ ∃ p, prmR s = .tup [prmV p, .bool false] ∧ p.parts.length ≤ s.length + 1) := by
  have hpl : ∀ t : Jb, t.length ≤ s.length → ((partsJ t).getD []).length ≤ s.length + 1 := fun t h => Nat.le_trans (parts_len t) (by omega)
  cases hp : plJ s 0 false with
  | none =>
    have he : eqR s = none := by unfold eqR; rw [hp]
    refine .inr ⟨eqR_no hp, ⟨[], s, (partsJ s).getD []⟩, ?_, hpl s (Nat.le_refl _)⟩
    unfold prmR; rw [he, value_no hp]
  | some r =>
    have he := eqR_some hp
    unfold prmR parseJ
    rw [he]
    cases hq : eqJ s with
    | none =>
      dsimp only
      cases hv : valueJ s
      · exact .inr ⟨rfl, _, rfl, hpl s (Nat.le_refl _)⟩
      · exact .inl ⟨_, rfl, rfl⟩
    | some i =>
      dsimp only
      cases hk : keyJ (s.take i)
      · exact .inr ⟨rfl, _, rfl, by simp⟩
      · cases hv : valueJ (s.drop (i + 1))
        · exact .inr ⟨rfl, ⟨_, _, _⟩, rfl, hpl _ (by rw [List.length_drop]; omega)⟩
        · exact .inl ⟨_, rfl, rfl⟩
set_option maxHeartbeats 8000000 in
set_option maxRecDepth 4000 in
theorem param_spec (s : Jb) (hs : s.length ≤ 1000000) : Spec Tryz.prog 51 [.str s] (prmR s) := by
  have h1 := equals_spec s (by omega)
  have hlt : ∀ {i}, eqR s = some i → i < s.length := fun h => eqR_lt h
  obtain ⟨RV, hRV⟩ : ∃ R, prmR s = R := ⟨_, rfl⟩
  have hrefs : RV.refs = [] := by rw [← hRV]; exact prmR_refs s
  rw [hRV]
  unfold prmR at hRV
  refine spec_of tt_ok Tryz.func51 rfl (by decide) Tryz.ntmps51 (congrArg Array.toList Tryz.results51) (by simp) (by decide) hrefs rfl (fun F hF => ?_)
  refine vwp_seq_k fun Na hNa => vreg tt_ok hF rfl ?_; simp only [go_sem, Int.reduceEq, Int.reduceNe, Int.reduceLT, Int.reduceLE, Nat.reduceEqDiff, Nat.reduceAdd, Nat.reduceMul, Nat.reduceLT, Nat.reduceLeDiff, Nat.reduceSub, reduceCtorEq, reduceIte, Int.reduceToNat, beq_self_eq_true, Bool.and_self, List.take_length, decide_true, Bool.not_true, Bool.not_false]
  refine hNa _ (VWp.keepR [0,2] [2] tt_ok hF rfl fun Nb hNb => ?_); simp only [go_sem, Int.reduceEq, Int.reduceNe, Int.reduceLT, Int.reduceLE, Nat.reduceEqDiff, Nat.reduceAdd, Nat.reduceMul, Nat.reduceLT, Nat.reduceLeDiff, Nat.reduceSub, reduceCtorEq, reduceIte, Int.reduceToNat, beq_self_eq_true, Bool.and_self, List.take_length, decide_true, Bool.not_true, Bool.not_false]
  refine hNb _ (VWp.keep [0,2,4] [2,4] ?_); simp only [go_sem, Int.reduceEq, Int.reduceNe, Int.reduceLT, Int.reduceLE, Nat.reduceEqDiff, Nat.reduceAdd, Nat.reduceMul, Nat.reduceLT, Nat.reduceLeDiff, Nat.reduceSub, reduceCtorEq, reduceIte, Int.reduceToNat, beq_self_eq_true, Bool.and_self, List.take_length, decide_true, Bool.not_true, Bool.not_false]
  cases he : eqR s with
  | none =>
    rw [he] at h1 hRV
    have h1 : Spec Tryz.prog 64 [.str s] (.int .i64 (-1)) := h1
    have hRV : .tup [prmV ⟨[], s, (partsJ s).getD []⟩, .bool (valueJ s)] = RV := hRV
    have h2 := rParts_spec s (by omega)
    have h3 := rValue_spec s (by omega)
    refine vwp_seq_k fun Nc hNc => vreg tt_ok hF rfl ?_; simp only [go_sem, Int.reduceEq, Int.reduceNe, Int.reduceLT, Int.reduceLE, Nat.reduceEqDiff, Nat.reduceAdd, Nat.reduceMul, Nat.reduceLT, Nat.reduceLeDiff, Nat.reduceSub, reduceCtorEq, reduceIte, Int.reduceToNat, beq_self_eq_true, Bool.and_self, List.take_length, decide_true, Bool.not_true, Bool.not_false]
    refine .inl ⟨_, h1, ?_⟩; try simp only [go_sem, Int.reduceEq, Int.reduceNe, Int.reduceLT, Int.reduceLE, Nat.reduceEqDiff, Nat.reduceAdd, Nat.reduceMul, Nat.reduceLT, Nat.reduceLeDiff, Nat.reduceSub, reduceCtorEq, reduceIte, Int.reduceToNat, beq_self_eq_true, Bool.and_self, List.take_length, decide_true, Bool.not_true, Bool.not_false]
    refine hNc _ (VWp.keep [0,2,4,5] [2,4] ?_); simp only [go_sem, Int.reduceEq, Int.reduceNe, Int.reduceLT, Int.reduceLE, Nat.reduceEqDiff, Nat.reduceAdd, Nat.reduceMul, Nat.reduceLT, Nat.reduceLeDiff, Nat.reduceSub, reduceCtorEq, reduceIte, Int.reduceToNat, beq_self_eq_true, Bool.and_self, List.take_length, decide_true, Bool.not_true, Bool.not_false]
    refine vwp_seq_k fun Nd hNd => ?_
    refine vwp_seq_k fun Ne hNe => vreg tt_ok hF rfl ?_; simp only [go_sem, Int.reduceEq, Int.reduceNe, Int.reduceLT, Int.reduceLE, Nat.reduceEqDiff, Nat.reduceAdd, Nat.reduceMul, Nat.reduceLT, Nat.reduceLeDiff, Nat.reduceSub, reduceCtorEq, reduceIte, Int.reduceToNat, beq_self_eq_true, Bool.and_self, List.take_length, decide_true, Bool.not_true, Bool.not_false]
    refine hNe _ (VWp.keep [0,2,4,5,9] [2,4] ?_); simp only [go_sem, Int.reduceEq, Int.reduceNe, Int.reduceLT, Int.reduceLE, Nat.reduceEqDiff, Nat.reduceAdd, Nat.reduceMul, Nat.reduceLT, Nat.reduceLeDiff, Nat.reduceSub, reduceCtorEq, reduceIte, Int.reduceToNat, beq_self_eq_true, Bool.and_self, List.take_length, decide_true, Bool.not_true, Bool.not_false]
    refine vif rfl ⟨fun ht => (by cases ht), fun hf => ?_⟩
    refine vwp_skip (hNd _ ?_)
    have hw0 : IntKind.i64.wrap (-1 + 1) = 0 := by rw [wrap_i64 (by omega) (by omega)]; rfl
    refine vwp_seq_k fun Ni hNi => vreg tt_ok hF rfl ?_; simp only [go_sem, Int.reduceEq, Int.reduceNe, Int.reduceLT, Int.reduceLE, Nat.reduceEqDiff, Nat.reduceAdd, Nat.reduceMul, Nat.reduceLT, Nat.reduceLeDiff, Nat.reduceSub, reduceCtorEq, reduceIte, Int.reduceToNat, beq_self_eq_true, Bool.and_self, List.take_length, decide_true, Bool.not_true, Bool.not_false, hw0, List.drop_zero]
    first | (refine ⟨by omega, ?_⟩) | (refine ⟨⟨by omega, by omega⟩, ?_⟩) | (refine ⟨⟨by omega, by omega, by omega⟩, ?_⟩)
    refine hNi _ (VWp.keepR [2,4] [2,4] tt_ok hF rfl fun Nj hNj => ?_); simp only [go_sem, Int.reduceEq, Int.reduceNe, Int.reduceLT, Int.reduceLE, Nat.reduceEqDiff, Nat.reduceAdd, Nat.reduceMul, Nat.reduceLT, Nat.reduceLeDiff, Nat.reduceSub, reduceCtorEq, reduceIte, Int.reduceToNat, beq_self_eq_true, Bool.and_self, List.take_length, decide_true, Bool.not_true, Bool.not_false]
    refine .inl ⟨_, h2, ?_⟩; try simp only [go_sem, Int.reduceEq, Int.reduceNe, Int.reduceLT, Int.reduceLE, Nat.reduceEqDiff, Nat.reduceAdd, Nat.reduceMul, Nat.reduceLT, Nat.reduceLeDiff, Nat.reduceSub, reduceCtorEq, reduceIte, Int.reduceToNat, beq_self_eq_true, Bool.and_self, List.take_length, decide_true, Bool.not_true, Bool.not_false]
    refine hNj _ (VWp.keep [2,4] [2,4] ?_); simp only [go_sem, Int.reduceEq, Int.reduceNe, Int.reduceLT, Int.reduceLE, Nat.reduceEqDiff, Nat.reduceAdd, Nat.reduceMul, Nat.reduceLT, Nat.reduceLeDiff, Nat.reduceSub, reduceCtorEq, reduceIte, Int.reduceToNat, beq_self_eq_true, Bool.and_self, List.take_length, decide_true, Bool.not_true, Bool.not_false]
    refine vwp_seq_k fun Nk hNk => vregd tt_ok mixed hF rfl (by kernel_rfl) (by kernel_rfl) ?_; simp only [go_sem, Int.reduceEq, Int.reduceNe, Int.reduceLT, Int.reduceLE, Nat.reduceEqDiff, Nat.reduceAdd, Nat.reduceMul, Nat.reduceLT, Nat.reduceLeDiff, Nat.reduceSub, reduceCtorEq, reduceIte, Int.reduceToNat, beq_self_eq_true, Bool.and_self, List.take_length, decide_true, Bool.not_true, Bool.not_false]
    refine .inl ⟨_, h3, ?_⟩; try simp only [go_sem, Int.reduceEq, Int.reduceNe, Int.reduceLT, Int.reduceLE, Nat.reduceEqDiff, Nat.reduceAdd, Nat.reduceMul, Nat.reduceLT, Nat.reduceLeDiff, Nat.reduceSub, reduceCtorEq, reduceIte, Int.reduceToNat, beq_self_eq_true, Bool.and_self, List.take_length, decide_true, Bool.not_true, Bool.not_false]
    refine hNk _ (VWp.keep [2,3] [2] ?_); simp only [go_sem, Int.reduceEq, Int.reduceNe, Int.reduceLT, Int.reduceLE, Nat.reduceEqDiff, Nat.reduceAdd, Nat.reduceMul, Nat.reduceLT, Nat.reduceLeDiff, Nat.reduceSub, reduceCtorEq, reduceIte, Int.reduceToNat, beq_self_eq_true, Bool.and_self, List.take_length, decide_true, Bool.not_true, Bool.not_false]
    refine vwp_ret ?_
    simp only [go_sem, Int.reduceEq, Int.reduceNe, Int.reduceLT, Int.reduceLE, Nat.reduceEqDiff, Nat.reduceAdd, Nat.reduceMul, Nat.reduceLT, Nat.reduceLeDiff, Nat.reduceSub, reduceCtorEq, reduceIte, Int.reduceToNat, beq_self_eq_true, Bool.and_self, List.take_length, decide_true, Bool.not_true, Bool.not_false]
    rw [← hRV]
    exact LeV.of_eq (by simp [prmV, prmC, strsV])
  | some i =>
    have hil := hlt he
    rw [he] at h1 hRV
    have h1 : Spec Tryz.prog 64 [.str s] (.int .i64 (i : Int)) := h1
    have h0 := key_spec (s.take i) (by simp; omega)
    have hRV : (if keyJ (s.take i) then .tup [prmV ⟨s.take i, s.drop (i + 1), (partsJ (s.drop (i + 1))).getD []⟩, .bool (valueJ (s.drop (i + 1)))] else .tup [prmV ⟨s.take i, [], []⟩, .bool false]) = RV := hRV
    have h2 := rParts_spec (s.drop (i + 1)) (by simp; omega)
    have h3 := rValue_spec (s.drop (i + 1)) (by simp; omega)
    have e1 : decide ((0 : Int) ≤ (i : Int)) = true := decide_eq_true (by omega)
    have hw : IntKind.i64.wrap ((i : Int) + 1) = ((i + 1 : Nat) : Int) := by rw [wrap_i64 (by omega) (by omega)]; rfl
    refine vwp_seq_k fun Nc hNc => vreg tt_ok hF rfl ?_; simp only [go_sem, Int.reduceEq, Int.reduceNe, Int.reduceLT, Int.reduceLE, Nat.reduceEqDiff, Nat.reduceAdd, Nat.reduceMul, Nat.reduceLT, Nat.reduceLeDiff, Nat.reduceSub, reduceCtorEq, reduceIte, Int.reduceToNat, beq_self_eq_true, Bool.and_self, List.take_length, decide_true, Bool.not_true, Bool.not_false]
    refine .inl ⟨_, h1, ?_⟩; try simp only [go_sem, Int.reduceEq, Int.reduceNe, Int.reduceLT, Int.reduceLE, Nat.reduceEqDiff, Nat.reduceAdd, Nat.reduceMul, Nat.reduceLT, Nat.reduceLeDiff, Nat.reduceSub, reduceCtorEq, reduceIte, Int.reduceToNat, beq_self_eq_true, Bool.and_self, List.take_length, decide_true, Bool.not_true, Bool.not_false]
    refine hNc _ (VWp.keep [0,2,4,5] [2,4] ?_); simp only [go_sem, Int.reduceEq, Int.reduceNe, Int.reduceLT, Int.reduceLE, Nat.reduceEqDiff, Nat.reduceAdd, Nat.reduceMul, Nat.reduceLT, Nat.reduceLeDiff, Nat.reduceSub, reduceCtorEq, reduceIte, Int.reduceToNat, beq_self_eq_true, Bool.and_self, List.take_length, decide_true, Bool.not_true, Bool.not_false]
    refine vwp_seq_k fun Nd hNd => ?_
    refine vwp_seq_k fun Ne hNe => vreg tt_ok hF rfl ?_; simp only [go_sem, Int.reduceEq, Int.reduceNe, Int.reduceLT, Int.reduceLE, Nat.reduceEqDiff, Nat.reduceAdd, Nat.reduceMul, Nat.reduceLT, Nat.reduceLeDiff, Nat.reduceSub, reduceCtorEq, reduceIte, Int.reduceToNat, beq_self_eq_true, Bool.and_self, List.take_length, decide_true, Bool.not_true, Bool.not_false, e1]
    refine hNe _ (VWp.keep [0,2,4,5,9] [2,4] ?_); simp only [go_sem, Int.reduceEq, Int.reduceNe, Int.reduceLT, Int.reduceLE, Nat.reduceEqDiff, Nat.reduceAdd, Nat.reduceMul, Nat.reduceLT, Nat.reduceLeDiff, Nat.reduceSub, reduceCtorEq, reduceIte, Int.reduceToNat, beq_self_eq_true, Bool.and_self, List.take_length, decide_true, Bool.not_true, Bool.not_false]
    refine vif rfl ⟨fun ht => ?_, fun hf => (by cases hf)⟩
    refine vwp_seq_k fun Nf hNf => vreg tt_ok hF rfl ?_; simp only [go_sem, Int.reduceEq, Int.reduceNe, Int.reduceLT, Int.reduceLE, Nat.reduceEqDiff, Nat.reduceAdd, Nat.reduceMul, Nat.reduceLT, Nat.reduceLeDiff, Nat.reduceSub, reduceCtorEq, reduceIte, Int.reduceToNat, beq_self_eq_true, Bool.and_self, List.take_length, decide_true, Bool.not_true, Bool.not_false]
    first | (refine ⟨⟨by omega, by omega⟩, ?_⟩) | (refine ⟨by omega, ?_⟩)
    try simp only [List.drop_zero]
    refine hNf _ (VWp.keep [0,2,4,5] [2,4] ?_); simp only [go_sem, Int.reduceEq, Int.reduceNe, Int.reduceLT, Int.reduceLE, Nat.reduceEqDiff, Nat.reduceAdd, Nat.reduceMul, Nat.reduceLT, Nat.reduceLeDiff, Nat.reduceSub, reduceCtorEq, reduceIte, Int.reduceToNat, beq_self_eq_true, Bool.and_self, List.take_length, decide_true, Bool.not_true, Bool.not_false]
    generalize keyJ (s.take i) = kb at h0 hRV
    refine vwp_seq_k fun Ng hNg => vreg tt_ok hF rfl ?_; simp only [go_sem, Int.reduceEq, Int.reduceNe, Int.reduceLT, Int.reduceLE, Nat.reduceEqDiff, Nat.reduceAdd, Nat.reduceMul, Nat.reduceLT, Nat.reduceLeDiff, Nat.reduceSub, reduceCtorEq, reduceIte, Int.reduceToNat, beq_self_eq_true, Bool.and_self, List.take_length, decide_true, Bool.not_true, Bool.not_false]
    refine .inl ⟨_, h0, ?_⟩; try simp only [go_sem, Int.reduceEq, Int.reduceNe, Int.reduceLT, Int.reduceLE, Nat.reduceEqDiff, Nat.reduceAdd, Nat.reduceMul, Nat.reduceLT, Nat.reduceLeDiff, Nat.reduceSub, reduceCtorEq, reduceIte, Int.reduceToNat, beq_self_eq_true, Bool.and_self, List.take_length, decide_true, Bool.not_true, Bool.not_false]
    refine hNg _ (VWp.keep [0,2,4,5,17] [2,4] ?_); simp only [go_sem, Int.reduceEq, Int.reduceNe, Int.reduceLT, Int.reduceLE, Nat.reduceEqDiff, Nat.reduceAdd, Nat.reduceMul, Nat.reduceLT, Nat.reduceLeDiff, Nat.reduceSub, reduceCtorEq, reduceIte, Int.reduceToNat, beq_self_eq_true, Bool.and_self, List.take_length, decide_true, Bool.not_true, Bool.not_false]
    cases kb
    · have hRV : .tup [prmV ⟨s.take i, [], []⟩, .bool false] = RV := hRV
      refine vif rfl ⟨fun ht => ?_, fun hf => (by cases hf)⟩
      refine vwp_seq_k fun Nh hNh => vreg tt_ok hF rfl ?_; simp only [go_sem, Int.reduceEq, Int.reduceNe, Int.reduceLT, Int.reduceLE, Nat.reduceEqDiff, Nat.reduceAdd, Nat.reduceMul, Nat.reduceLT, Nat.reduceLeDiff, Nat.reduceSub, reduceCtorEq, reduceIte, Int.reduceToNat, beq_self_eq_true, Bool.and_self, List.take_length, decide_true, Bool.not_true, Bool.not_false]
      refine hNh _ (VWp.keep [2,3] [2] ?_); simp only [go_sem, Int.reduceEq, Int.reduceNe, Int.reduceLT, Int.reduceLE, Nat.reduceEqDiff, Nat.reduceAdd, Nat.reduceMul, Nat.reduceLT, Nat.reduceLeDiff, Nat.reduceSub, reduceCtorEq, reduceIte, Int.reduceToNat, beq_self_eq_true, Bool.and_self, List.take_length, decide_true, Bool.not_true, Bool.not_false]
      refine vwp_ret ?_
      simp only [go_sem, Int.reduceEq, Int.reduceNe, Int.reduceLT, Int.reduceLE, Nat.reduceEqDiff, Nat.reduceAdd, Nat.reduceMul, Nat.reduceLT, Nat.reduceLeDiff, Nat.reduceSub, reduceCtorEq, reduceIte, Int.reduceToNat, beq_self_eq_true, Bool.and_self, List.take_length, decide_true, Bool.not_true, Bool.not_false]
      rw [← hRV]
      exact LeV.tup ⟨LeV.agg ⟨LeV.refl _, LeV.refl _, LeV.nil 1, trivial⟩, LeV.refl _, trivial⟩
    · have hRV : .tup [prmV ⟨s.take i, s.drop (i + 1), (partsJ (s.drop (i + 1))).getD []⟩, .bool (valueJ (s.drop (i + 1)))] = RV := hRV
      refine vif rfl ⟨fun ht => (by cases ht), fun hf => ?_⟩
      refine vwp_skip (hNd _ ?_)
      refine vwp_seq_k fun Ni hNi => vreg tt_ok hF rfl ?_; simp only [go_sem, Int.reduceEq, Int.reduceNe, Int.reduceLT, Int.reduceLE, Nat.reduceEqDiff, Nat.reduceAdd, Nat.reduceMul, Nat.reduceLT, Nat.reduceLeDiff, Nat.reduceSub, reduceCtorEq, reduceIte, Int.reduceToNat, beq_self_eq_true, Bool.and_self, List.take_length, decide_true, Bool.not_true, Bool.not_false, hw]
      first | (refine ⟨⟨by omega, by omega⟩, ?_⟩) | (refine ⟨by omega, ?_⟩)
      refine hNi _ (VWp.keepR [2,4] [2,4] tt_ok hF rfl fun Nj hNj => ?_); simp only [go_sem, Int.reduceEq, Int.reduceNe, Int.reduceLT, Int.reduceLE, Nat.reduceEqDiff, Nat.reduceAdd, Nat.reduceMul, Nat.reduceLT, Nat.reduceLeDiff, Nat.reduceSub, reduceCtorEq, reduceIte, Int.reduceToNat, beq_self_eq_true, Bool.and_self, List.take_length, decide_true, Bool.not_true, Bool.not_false]
      refine .inl ⟨_, h2, ?_⟩; try simp only [go_sem, Int.reduceEq, Int.reduceNe, Int.reduceLT, Int.reduceLE, Nat.reduceEqDiff, Nat.reduceAdd, Nat.reduceMul, Nat.reduceLT, Nat.reduceLeDiff, Nat.reduceSub, reduceCtorEq, reduceIte, Int.reduceToNat, beq_self_eq_true, Bool.and_self, List.take_length, decide_true, Bool.not_true, Bool.not_false]
      refine hNj _ (VWp.keep [2,4] [2,4] ?_); simp only [go_sem, Int.reduceEq, Int.reduceNe, Int.reduceLT, Int.reduceLE, Nat.reduceEqDiff, Nat.reduceAdd, Nat.reduceMul, Nat.reduceLT, Nat.reduceLeDiff, Nat.reduceSub, reduceCtorEq, reduceIte, Int.reduceToNat, beq_self_eq_true, Bool.and_self, List.take_length, decide_true, Bool.not_true, Bool.not_false]
      refine vwp_seq_k fun Nk hNk => vregd tt_ok mixed hF rfl (by kernel_rfl) (by kernel_rfl) ?_; simp only [go_sem, Int.reduceEq, Int.reduceNe, Int.reduceLT, Int.reduceLE, Nat.reduceEqDiff, Nat.reduceAdd, Nat.reduceMul, Nat.reduceLT, Nat.reduceLeDiff, Nat.reduceSub, reduceCtorEq, reduceIte, Int.reduceToNat, beq_self_eq_true, Bool.and_self, List.take_length, decide_true, Bool.not_true, Bool.not_false]
      refine .inl ⟨_, h3, ?_⟩; try simp only [go_sem, Int.reduceEq, Int.reduceNe, Int.reduceLT, Int.reduceLE, Nat.reduceEqDiff, Nat.reduceAdd, Nat.reduceMul, Nat.reduceLT, Nat.reduceLeDiff, Nat.reduceSub, reduceCtorEq, reduceIte, Int.reduceToNat, beq_self_eq_true, Bool.and_self, List.take_length, decide_true, Bool.not_true, Bool.not_false]
      refine hNk _ (VWp.keep [2,3] [2] ?_); simp only [go_sem, Int.reduceEq, Int.reduceNe, Int.reduceLT, Int.reduceLE, Nat.reduceEqDiff, Nat.reduceAdd, Nat.reduceMul, Nat.reduceLT, Nat.reduceLeDiff, Nat.reduceSub, reduceCtorEq, reduceIte, Int.reduceToNat, beq_self_eq_true, Bool.and_self, List.take_length, decide_true, Bool.not_true, Bool.not_false]
      refine vwp_ret ?_
      simp only [go_sem, Int.reduceEq, Int.reduceNe, Int.reduceLT, Int.reduceLE, Nat.reduceEqDiff, Nat.reduceAdd, Nat.reduceMul, Nat.reduceLT, Nat.reduceLeDiff, Nat.reduceSub, reduceCtorEq, reduceIte, Int.reduceToNat, beq_self_eq_true, Bool.and_self, List.take_length, decide_true, Bool.not_true, Bool.not_false]
      rw [← hRV]
      exact LeV.of_eq (by simp [prmV, prmC, strsV])
set_option maxHeartbeats 8000000 in
set_option maxRecDepth 4000 in
theorem operation_spec (s : Jb) : Spec Tryz.prog 33 [.str s] (.bool (opJ s)) := by
  have e1 := streq s [74, 79, 66]
  have e2 := streq s [69, 88, 69, 67]
  have e3 := streq s [68, 68]
  have e4 := streq s [80, 82, 79, 67]
  have e5 := streq s [80, 69, 78, 68]
  have ho : opJ s = (s == [74, 79, 66] || s == [69, 88, 69, 67] || s == [68, 68] || s == [80, 82, 79, 67] || s == [80, 69, 78, 68]) := rfl
  rw [ho]
  generalize (s == [74, 79, 66]) = b1 at e1
  generalize (s == [69, 88, 69, 67]) = b2 at e2
  generalize (s == [68, 68]) = b3 at e3
  generalize (s == [80, 82, 79, 67]) = b4 at e4
  generalize (s == [80, 69, 78, 68]) = b5 at e5
  refine spec_of tt_ok Tryz.func33 rfl (by decide) Tryz.ntmps33 (congrArg Array.toList Tryz.results33) (by simp) (by decide) rfl rfl (fun F hF => ?_)
  refine vwp_seq_k fun Na hNa => vreg tt_ok hF rfl ?_; simp only [go_sem, Int.reduceEq, Int.reduceNe, Int.reduceLT, Int.reduceLE, Nat.reduceEqDiff, Nat.reduceAdd, Nat.reduceMul, Nat.reduceLT, Nat.reduceLeDiff, Nat.reduceSub, reduceCtorEq, reduceIte, Int.reduceToNat, beq_self_eq_true, Bool.and_self, List.take_length, decide_true, Bool.not_true, Bool.not_false]
  refine hNa _ (VWp.keep [0] [] ?_); simp only [go_sem, Int.reduceEq, Int.reduceNe, Int.reduceLT, Int.reduceLE, Nat.reduceEqDiff, Nat.reduceAdd, Nat.reduceMul, Nat.reduceLT, Nat.reduceLeDiff, Nat.reduceSub, reduceCtorEq, reduceIte, Int.reduceToNat, beq_self_eq_true, Bool.and_self, List.take_length, decide_true, Bool.not_true, Bool.not_false]
  cases b1 <;> cases b2 <;> cases b3 <;> cases b4
  all_goals
    refine vwp_seq_k fun Nb hNb => vreg tt_ok hF rfl ?_; simp only [go_sem, Int.reduceEq, Int.reduceNe, Int.reduceLT, Int.reduceLE, Nat.reduceEqDiff, Nat.reduceAdd, Nat.reduceMul, Nat.reduceLT, Nat.reduceLeDiff, Nat.reduceSub, reduceCtorEq, reduceIte, Int.reduceToNat, beq_self_eq_true, Bool.and_self, List.take_length, decide_true, Bool.not_true, Bool.not_false, e1, e2, e3, e4, e5]
    refine hNb _ (VWp.keep [2] [] ?_); simp only [go_sem, Int.reduceEq, Int.reduceNe, Int.reduceLT, Int.reduceLE, Nat.reduceEqDiff, Nat.reduceAdd, Nat.reduceMul, Nat.reduceLT, Nat.reduceLeDiff, Nat.reduceSub, reduceCtorEq, reduceIte, Int.reduceToNat, beq_self_eq_true, Bool.and_self, List.take_length, decide_true, Bool.not_true, Bool.not_false]
    refine vwp_ret ?_
    simp only [go_sem, Int.reduceEq, Int.reduceNe, Int.reduceLT, Int.reduceLE, Nat.reduceEqDiff, Nat.reduceAdd, Nat.reduceMul, Nat.reduceLT, Nat.reduceLeDiff, Nat.reduceSub, reduceCtorEq, reduceIte, Int.reduceToNat, beq_self_eq_true, Bool.and_self, List.take_length, decide_true, Bool.not_true, Bool.not_false]
    exact LeV.of_eq (by simp)
set_option maxHeartbeats 8000000 in
set_option maxRecDepth 4000 in
theorem label_spec (s : Jb) (hs : s.length ≤ 100000000) : Spec Tryz.prog 32 [.str s] (.bool (labelJ s)) := by
  have h1 := key_spec s hs
  have h2 := words_spec s 46 hs
  have e1 : decide (s = ([] : Jb)) = s.isEmpty := by cases s <;> simp
  have hl : labelJ s = (s.isEmpty || (keyJ s && decide ((wordsJ 46 s).length ≤ 2))) := rfl
  rw [hl]
  generalize wordsJ 46 s = W at h2 ⊢
  have h2 : Spec Tryz.prog 50 [.str s, .int .u8 46] (.sl 1 (W.map fun w => [V.str w])) := h2
  have e2 : decide ((W.length : Int) ≤ 2) = decide (W.length ≤ 2) := by apply decide_eq_decide.2; omega
  generalize decide (W.length ≤ 2) = b3 at e2 ⊢
  generalize keyJ s = b2 at h1 ⊢
  generalize s.isEmpty = b1 at e1 ⊢
  refine spec_of tt_ok Tryz.func32 rfl (by decide) Tryz.ntmps32 (congrArg Array.toList Tryz.results32) (by simp) (by decide) rfl rfl (fun F hF => ?_)
  refine vwp_seq_k fun Na hNa => vreg tt_ok hF rfl ?_; simp only [go_sem, Int.reduceEq, Int.reduceNe, Int.reduceLT, Int.reduceLE, Nat.reduceEqDiff, Nat.reduceAdd, Nat.reduceMul, Nat.reduceLT, Nat.reduceLeDiff, Nat.reduceSub, reduceCtorEq, reduceIte, Int.reduceToNat, beq_self_eq_true, Bool.and_self, List.take_length, decide_true, Bool.not_true, Bool.not_false]
  refine hNa _ (VWp.keep [0] [] ?_); simp only [go_sem, Int.reduceEq, Int.reduceNe, Int.reduceLT, Int.reduceLE, Nat.reduceEqDiff, Nat.reduceAdd, Nat.reduceMul, Nat.reduceLT, Nat.reduceLeDiff, Nat.reduceSub, reduceCtorEq, reduceIte, Int.reduceToNat, beq_self_eq_true, Bool.and_self, List.take_length, decide_true, Bool.not_true, Bool.not_false]
  cases b1
  · refine vwp_seq_k fun Nb hNb => vreg tt_ok hF rfl ?_; simp only [go_sem, Int.reduceEq, Int.reduceNe, Int.reduceLT, Int.reduceLE, Nat.reduceEqDiff, Nat.reduceAdd, Nat.reduceMul, Nat.reduceLT, Nat.reduceLeDiff, Nat.reduceSub, reduceCtorEq, reduceIte, Int.reduceToNat, beq_self_eq_true, Bool.and_self, List.take_length, decide_true, Bool.not_true, Bool.not_false, e1]
    refine .inl ⟨_, h1, ?_⟩; try simp only [go_sem, Int.reduceEq, Int.reduceNe, Int.reduceLT, Int.reduceLE, Nat.reduceEqDiff, Nat.reduceAdd, Nat.reduceMul, Nat.reduceLT, Nat.reduceLeDiff, Nat.reduceSub, reduceCtorEq, reduceIte, Int.reduceToNat, beq_self_eq_true, Bool.and_self, List.take_length, decide_true, Bool.not_true, Bool.not_false]
    cases b2
    · try simp only [go_sem, Int.reduceEq, Int.reduceNe, Int.reduceLT, Int.reduceLE, Nat.reduceEqDiff, Nat.reduceAdd, Nat.reduceMul, Nat.reduceLT, Nat.reduceLeDiff, Nat.reduceSub, reduceCtorEq, reduceIte, Int.reduceToNat, beq_self_eq_true, Bool.and_self, List.take_length, decide_true, Bool.not_true, Bool.not_false]
      refine hNb _ (VWp.keep [2] [] ?_); simp only [go_sem, Int.reduceEq, Int.reduceNe, Int.reduceLT, Int.reduceLE, Nat.reduceEqDiff, Nat.reduceAdd, Nat.reduceMul, Nat.reduceLT, Nat.reduceLeDiff, Nat.reduceSub, reduceCtorEq, reduceIte, Int.reduceToNat, beq_self_eq_true, Bool.and_self, List.take_length, decide_true, Bool.not_true, Bool.not_false]
      refine vwp_ret ?_
      simp only [go_sem, Int.reduceEq, Int.reduceNe, Int.reduceLT, Int.reduceLE, Nat.reduceEqDiff, Nat.reduceAdd, Nat.reduceMul, Nat.reduceLT, Nat.reduceLeDiff, Nat.reduceSub, reduceCtorEq, reduceIte, Int.reduceToNat, beq_self_eq_true, Bool.and_self, List.take_length, decide_true, Bool.not_true, Bool.not_false]
      exact LeV.refl _
    · try simp only [go_sem, Int.reduceEq, Int.reduceNe, Int.reduceLT, Int.reduceLE, Nat.reduceEqDiff, Nat.reduceAdd, Nat.reduceMul, Nat.reduceLT, Nat.reduceLeDiff, Nat.reduceSub, reduceCtorEq, reduceIte, Int.reduceToNat, beq_self_eq_true, Bool.and_self, List.take_length, decide_true, Bool.not_true, Bool.not_false]
      refine .inl ⟨_, h2, ?_⟩; try simp only [go_sem, Int.reduceEq, Int.reduceNe, Int.reduceLT, Int.reduceLE, Nat.reduceEqDiff, Nat.reduceAdd, Nat.reduceMul, Nat.reduceLT, Nat.reduceLeDiff, Nat.reduceSub, reduceCtorEq, reduceIte, Int.reduceToNat, beq_self_eq_true, Bool.and_self, List.take_length, decide_true, Bool.not_true, Bool.not_false, List.length_map, e2]
      refine hNb _ (VWp.keep [2] [] ?_); simp only [go_sem, Int.reduceEq, Int.reduceNe, Int.reduceLT, Int.reduceLE, Nat.reduceEqDiff, Nat.reduceAdd, Nat.reduceMul, Nat.reduceLT, Nat.reduceLeDiff, Nat.reduceSub, reduceCtorEq, reduceIte, Int.reduceToNat, beq_self_eq_true, Bool.and_self, List.take_length, decide_true, Bool.not_true, Bool.not_false]
      refine vwp_ret ?_
      simp only [go_sem, Int.reduceEq, Int.reduceNe, Int.reduceLT, Int.reduceLE, Nat.reduceEqDiff, Nat.reduceAdd, Nat.reduceMul, Nat.reduceLT, Nat.reduceLeDiff, Nat.reduceSub, reduceCtorEq, reduceIte, Int.reduceToNat, beq_self_eq_true, Bool.and_self, List.take_length, decide_true, Bool.not_true, Bool.not_false]
      exact LeV.of_eq (by simp)
  · refine vwp_seq_k fun Nb hNb => vreg tt_ok hF rfl ?_; simp only [go_sem, Int.reduceEq, Int.reduceNe, Int.reduceLT, Int.reduceLE, Nat.reduceEqDiff, Nat.reduceAdd, Nat.reduceMul, Nat.reduceLT, Nat.reduceLeDiff, Nat.reduceSub, reduceCtorEq, reduceIte, Int.reduceToNat, beq_self_eq_true, Bool.and_self, List.take_length, decide_true, Bool.not_true, Bool.not_false, e1]
    refine hNb _ (VWp.keep [2] [] ?_); simp only [go_sem, Int.reduceEq, Int.reduceNe, Int.reduceLT, Int.reduceLE, Nat.reduceEqDiff, Nat.reduceAdd, Nat.reduceMul, Nat.reduceLT, Nat.reduceLeDiff, Nat.reduceSub, reduceCtorEq, reduceIte, Int.reduceToNat, beq_self_eq_true, Bool.and_self, List.take_length, decide_true, Bool.not_true, Bool.not_false]
    refine vwp_ret ?_
    simp only [go_sem, Int.reduceEq, Int.reduceNe, Int.reduceLT, Int.reduceLE, Nat.reduceEqDiff, Nat.reduceAdd, Nat.reduceMul, Nat.reduceLT, Nat.reduceLeDiff, Nat.reduceSub, reduceCtorEq, reduceIte, Int.reduceToNat, beq_self_eq_true, Bool.and_self, List.take_length, decide_true, Bool.not_true, Bool.not_false]
    exact LeV.refl _
set_option maxHeartbeats 8000000 in
set_option maxRecDepth 4000 in
theorem begins_spec (s w : Jb) : Spec Tryz.prog 18 [.str s, .str w] (.bool (begJ s w)) := by
  have e1 : decide ((w.length : Int) ≤ (s.length : Int)) = decide (w.length ≤ s.length) := natle _ _
  have hb : begJ s w = (s.take w.length == w && decide (w.length ≤ s.length)) := rfl
  have e2 := streq (s.take w.length) w
  rw [hb]
  by_cases h : w.length ≤ s.length
  · rw [decide_eq_true h] at e1 ⊢
    refine spec_of tt_ok Tryz.func18 rfl (by decide) Tryz.ntmps18 (congrArg Array.toList Tryz.results18) (by simp) (by decide) rfl rfl (fun F hF => ?_)
    refine vwp_seq_k fun Na hNa => vreg tt_ok hF rfl ?_; simp only [go_sem, Int.reduceEq, Int.reduceNe, Int.reduceLT, Int.reduceLE, Nat.reduceEqDiff, Nat.reduceAdd, Nat.reduceMul, Nat.reduceLT, Nat.reduceLeDiff, Nat.reduceSub, reduceCtorEq, reduceIte, Int.reduceToNat, beq_self_eq_true, Bool.and_self, List.take_length, decide_true, Bool.not_true, Bool.not_false]
    refine hNa _ (VWp.keep [0,1] [] ?_); simp only [go_sem, Int.reduceEq, Int.reduceNe, Int.reduceLT, Int.reduceLE, Nat.reduceEqDiff, Nat.reduceAdd, Nat.reduceMul, Nat.reduceLT, Nat.reduceLeDiff, Nat.reduceSub, reduceCtorEq, reduceIte, Int.reduceToNat, beq_self_eq_true, Bool.and_self, List.take_length, decide_true, Bool.not_true, Bool.not_false]
    refine vwp_seq_k fun Nb hNb => vreg tt_ok hF rfl ?_; simp only [go_sem, Int.reduceEq, Int.reduceNe, Int.reduceLT, Int.reduceLE, Nat.reduceEqDiff, Nat.reduceAdd, Nat.reduceMul, Nat.reduceLT, Nat.reduceLeDiff, Nat.reduceSub, reduceCtorEq, reduceIte, Int.reduceToNat, beq_self_eq_true, Bool.and_self, List.take_length, decide_true, Bool.not_true, Bool.not_false, e1]
    first | (refine ⟨⟨by omega, by omega⟩, ?_⟩) | (refine ⟨by omega, ?_⟩) | skip
    try simp only [List.drop_zero, e2]
    refine hNb _ (VWp.keep [4] [] ?_); simp only [go_sem, Int.reduceEq, Int.reduceNe, Int.reduceLT, Int.reduceLE, Nat.reduceEqDiff, Nat.reduceAdd, Nat.reduceMul, Nat.reduceLT, Nat.reduceLeDiff, Nat.reduceSub, reduceCtorEq, reduceIte, Int.reduceToNat, beq_self_eq_true, Bool.and_self, List.take_length, decide_true, Bool.not_true, Bool.not_false]
    refine vwp_ret ?_
    simp only [go_sem, Int.reduceEq, Int.reduceNe, Int.reduceLT, Int.reduceLE, Nat.reduceEqDiff, Nat.reduceAdd, Nat.reduceMul, Nat.reduceLT, Nat.reduceLeDiff, Nat.reduceSub, reduceCtorEq, reduceIte, Int.reduceToNat, beq_self_eq_true, Bool.and_self, List.take_length, decide_true, Bool.not_true, Bool.not_false]
    exact LeV.of_eq (by simp [e2])
  · rw [decide_eq_false h] at e1 ⊢
    refine spec_of tt_ok Tryz.func18 rfl (by decide) Tryz.ntmps18 (congrArg Array.toList Tryz.results18) (by simp) (by decide) rfl rfl (fun F hF => ?_)
    refine vwp_seq_k fun Na hNa => vreg tt_ok hF rfl ?_; simp only [go_sem, Int.reduceEq, Int.reduceNe, Int.reduceLT, Int.reduceLE, Nat.reduceEqDiff, Nat.reduceAdd, Nat.reduceMul, Nat.reduceLT, Nat.reduceLeDiff, Nat.reduceSub, reduceCtorEq, reduceIte, Int.reduceToNat, beq_self_eq_true, Bool.and_self, List.take_length, decide_true, Bool.not_true, Bool.not_false]
    refine hNa _ (VWp.keep [0,1] [] ?_); simp only [go_sem, Int.reduceEq, Int.reduceNe, Int.reduceLT, Int.reduceLE, Nat.reduceEqDiff, Nat.reduceAdd, Nat.reduceMul, Nat.reduceLT, Nat.reduceLeDiff, Nat.reduceSub, reduceCtorEq, reduceIte, Int.reduceToNat, beq_self_eq_true, Bool.and_self, List.take_length, decide_true, Bool.not_true, Bool.not_false]
    refine vwp_seq_k fun Nb hNb => vreg tt_ok hF rfl ?_; simp only [go_sem, Int.reduceEq, Int.reduceNe, Int.reduceLT, Int.reduceLE, Nat.reduceEqDiff, Nat.reduceAdd, Nat.reduceMul, Nat.reduceLT, Nat.reduceLeDiff, Nat.reduceSub, reduceCtorEq, reduceIte, Int.reduceToNat, beq_self_eq_true, Bool.and_self, List.take_length, decide_true, Bool.not_true, Bool.not_false, e1]
    refine hNb _ (VWp.keep [4] [] ?_); simp only [go_sem, Int.reduceEq, Int.reduceNe, Int.reduceLT, Int.reduceLE, Nat.reduceEqDiff, Nat.reduceAdd, Nat.reduceMul, Nat.reduceLT, Nat.reduceLeDiff, Nat.reduceSub, reduceCtorEq, reduceIte, Int.reduceToNat, beq_self_eq_true, Bool.and_self, List.take_length, decide_true, Bool.not_true, Bool.not_false]
    refine vwp_ret ?_
    simp only [go_sem, Int.reduceEq, Int.reduceNe, Int.reduceLT, Int.reduceLE, Nat.reduceEqDiff, Nat.reduceAdd, Nat.reduceMul, Nat.reduceLT, Nat.reduceLeDiff, Nat.reduceSub, reduceCtorEq, reduceIte, Int.reduceToNat, beq_self_eq_true, Bool.and_self, List.take_length, decide_true, Bool.not_true, Bool.not_false]
    exact LeV.of_eq (by simp)
set_option maxHeartbeats 8000000 in
set_option maxRecDepth 4000 in
theorem card_spec (s : Jb) (hs : s.length ≤ 1000000000) : Spec Tryz.prog 17 [.str s] (.bool (cardJ s)) := by
  have ht := plain_spec s hs
  have hc : cardJ s = (decide (s.length ≤ 80) && textJ s) := rfl
  have e1 : decide ((s.length : Int) ≤ (80 : Int)) = decide (s.length ≤ 80) := by apply decide_eq_decide.2; omega
  rw [hc]
  generalize decide (s.length ≤ 80) = b1 at e1
  refine spec_of tt_ok Tryz.func17 rfl (by decide) Tryz.ntmps17 (congrArg Array.toList Tryz.results17) (by simp) (by decide) rfl rfl (fun F hF => ?_)
  refine vwp_seq_k fun Na hNa => vreg tt_ok hF rfl ?_; simp only [go_sem, Int.reduceEq, Int.reduceNe, Int.reduceLT, Int.reduceLE, Nat.reduceEqDiff, Nat.reduceAdd, Nat.reduceMul, Nat.reduceLT, Nat.reduceLeDiff, Nat.reduceSub, reduceCtorEq, reduceIte, Int.reduceToNat, beq_self_eq_true, Bool.and_self, List.take_length, decide_true, Bool.not_true, Bool.not_false]
  refine hNa _ (VWp.keep [0] [] ?_); simp only [go_sem, Int.reduceEq, Int.reduceNe, Int.reduceLT, Int.reduceLE, Nat.reduceEqDiff, Nat.reduceAdd, Nat.reduceMul, Nat.reduceLT, Nat.reduceLeDiff, Nat.reduceSub, reduceCtorEq, reduceIte, Int.reduceToNat, beq_self_eq_true, Bool.and_self, List.take_length, decide_true, Bool.not_true, Bool.not_false]
  cases b1
  · refine vwp_seq_k fun Nb hNb => vreg tt_ok hF rfl ?_; simp only [go_sem, Int.reduceEq, Int.reduceNe, Int.reduceLT, Int.reduceLE, Nat.reduceEqDiff, Nat.reduceAdd, Nat.reduceMul, Nat.reduceLT, Nat.reduceLeDiff, Nat.reduceSub, reduceCtorEq, reduceIte, Int.reduceToNat, beq_self_eq_true, Bool.and_self, List.take_length, decide_true, Bool.not_true, Bool.not_false, e1]
    refine hNb _ (VWp.keep [2] [] ?_); simp only [go_sem, Int.reduceEq, Int.reduceNe, Int.reduceLT, Int.reduceLE, Nat.reduceEqDiff, Nat.reduceAdd, Nat.reduceMul, Nat.reduceLT, Nat.reduceLeDiff, Nat.reduceSub, reduceCtorEq, reduceIte, Int.reduceToNat, beq_self_eq_true, Bool.and_self, List.take_length, decide_true, Bool.not_true, Bool.not_false]
    refine vwp_ret ?_
    simp only [go_sem, Int.reduceEq, Int.reduceNe, Int.reduceLT, Int.reduceLE, Nat.reduceEqDiff, Nat.reduceAdd, Nat.reduceMul, Nat.reduceLT, Nat.reduceLeDiff, Nat.reduceSub, reduceCtorEq, reduceIte, Int.reduceToNat, beq_self_eq_true, Bool.and_self, List.take_length, decide_true, Bool.not_true, Bool.not_false]
    exact LeV.refl _
  · refine vwp_seq_k fun Nb hNb => vreg tt_ok hF rfl ?_; simp only [go_sem, Int.reduceEq, Int.reduceNe, Int.reduceLT, Int.reduceLE, Nat.reduceEqDiff, Nat.reduceAdd, Nat.reduceMul, Nat.reduceLT, Nat.reduceLeDiff, Nat.reduceSub, reduceCtorEq, reduceIte, Int.reduceToNat, beq_self_eq_true, Bool.and_self, List.take_length, decide_true, Bool.not_true, Bool.not_false, e1]
    refine .inl ⟨_, ht, ?_⟩; try simp only [go_sem, Int.reduceEq, Int.reduceNe, Int.reduceLT, Int.reduceLE, Nat.reduceEqDiff, Nat.reduceAdd, Nat.reduceMul, Nat.reduceLT, Nat.reduceLeDiff, Nat.reduceSub, reduceCtorEq, reduceIte, Int.reduceToNat, beq_self_eq_true, Bool.and_self, List.take_length, decide_true, Bool.not_true, Bool.not_false]
    refine hNb _ (VWp.keep [2] [] ?_); simp only [go_sem, Int.reduceEq, Int.reduceNe, Int.reduceLT, Int.reduceLE, Nat.reduceEqDiff, Nat.reduceAdd, Nat.reduceMul, Nat.reduceLT, Nat.reduceLeDiff, Nat.reduceSub, reduceCtorEq, reduceIte, Int.reduceToNat, beq_self_eq_true, Bool.and_self, List.take_length, decide_true, Bool.not_true, Bool.not_false]
    refine vwp_ret ?_
    simp only [go_sem, Int.reduceEq, Int.reduceNe, Int.reduceLT, Int.reduceLE, Nat.reduceEqDiff, Nat.reduceAdd, Nat.reduceMul, Nat.reduceLT, Nat.reduceLeDiff, Nat.reduceSub, reduceCtorEq, reduceIte, Int.reduceToNat, beq_self_eq_true, Bool.and_self, List.take_length, decide_true, Bool.not_true, Bool.not_false]
    exact LeV.refl _
set_option maxHeartbeats 8000000 in
set_option maxRecDepth 4000 in
theorem data_spec (s : StmJ) : Spec Tryz.prog 16 [stmV s] (.int .i64 (kindJ s : Int)) := by
  obtain ⟨line, name, op, params, data⟩ := s
  cases params with
  | nil =>
    have hk : kindJ ⟨line, name, op, [], data⟩ = 0 := rfl
    rw [hk]
    have e1 := streq op [68, 68]
    generalize (op == ([68, 68] : Jb)) = b1 at e1
    refine spec_of tt_ok Tryz.func16 rfl (by decide) Tryz.ntmps16 (congrArg Array.toList Tryz.results16) (by simp) (by decide) rfl rfl (fun F hF => ?_)
    refine vwp_seq_k fun Na hNa => vreg tt_ok hF rfl ?_; simp only [go_sem, Int.reduceEq, Int.reduceNe, Int.reduceLT, Int.reduceLE, Nat.reduceEqDiff, Nat.reduceAdd, Nat.reduceMul, Nat.reduceLT, Nat.reduceLeDiff, Nat.reduceSub, reduceCtorEq, reduceIte, Int.reduceToNat, beq_self_eq_true, Bool.and_self, List.take_length, decide_true, Bool.not_true, Bool.not_false]
    refine hNa _ (VWp.keep [1] [1] ?_); simp only [go_sem, Int.reduceEq, Int.reduceNe, Int.reduceLT, Int.reduceLE, Nat.reduceEqDiff, Nat.reduceAdd, Nat.reduceMul, Nat.reduceLT, Nat.reduceLeDiff, Nat.reduceSub, reduceCtorEq, reduceIte, Int.reduceToNat, beq_self_eq_true, Bool.and_self, List.take_length, decide_true, Bool.not_true, Bool.not_false]
    refine vwp_seq_k fun Nb hNb => ?_
    cases b1
    all_goals
      refine vwp_seq_k fun Nc hNc => vreg tt_ok hF rfl ?_; simp only [go_sem, Int.reduceEq, Int.reduceNe, Int.reduceLT, Int.reduceLE, Nat.reduceEqDiff, Nat.reduceAdd, Nat.reduceMul, Nat.reduceLT, Nat.reduceLeDiff, Nat.reduceSub, reduceCtorEq, reduceIte, Int.reduceToNat, beq_self_eq_true, Bool.and_self, List.take_length, decide_true, Bool.not_true, Bool.not_false, e1]
      refine hNc _ (VWp.keep [1,19] [1] ?_); simp only [go_sem, Int.reduceEq, Int.reduceNe, Int.reduceLT, Int.reduceLE, Nat.reduceEqDiff, Nat.reduceAdd, Nat.reduceMul, Nat.reduceLT, Nat.reduceLeDiff, Nat.reduceSub, reduceCtorEq, reduceIte, Int.reduceToNat, beq_self_eq_true, Bool.and_self, List.take_length, decide_true, Bool.not_true, Bool.not_false]
      refine vif rfl ⟨fun ht => ?_, fun hf => (by cases hf)⟩
      refine vwp_seq_k fun Nd hNd => vreg tt_ok hF rfl ?_; simp only [go_sem, Int.reduceEq, Int.reduceNe, Int.reduceLT, Int.reduceLE, Nat.reduceEqDiff, Nat.reduceAdd, Nat.reduceMul, Nat.reduceLT, Nat.reduceLeDiff, Nat.reduceSub, reduceCtorEq, reduceIte, Int.reduceToNat, beq_self_eq_true, Bool.and_self, List.take_length, decide_true, Bool.not_true, Bool.not_false]
      refine hNd _ (VWp.keep [2] [] ?_); simp only [go_sem, Int.reduceEq, Int.reduceNe, Int.reduceLT, Int.reduceLE, Nat.reduceEqDiff, Nat.reduceAdd, Nat.reduceMul, Nat.reduceLT, Nat.reduceLeDiff, Nat.reduceSub, reduceCtorEq, reduceIte, Int.reduceToNat, beq_self_eq_true, Bool.and_self, List.take_length, decide_true, Bool.not_true, Bool.not_false]
      refine vwp_ret ?_
      simp only [go_sem, Int.reduceEq, Int.reduceNe, Int.reduceLT, Int.reduceLE, Nat.reduceEqDiff, Nat.reduceAdd, Nat.reduceMul, Nat.reduceLT, Nat.reduceLeDiff, Nat.reduceSub, reduceCtorEq, reduceIte, Int.reduceToNat, beq_self_eq_true, Bool.and_self, List.take_length, decide_true, Bool.not_true, Bool.not_false]
      exact LeV.refl _
  | cons p ps =>
    obtain ⟨key, value, parts⟩ := p
    have e1 := streq op [68, 68]
    have e2 : decide (key = ([] : Jb)) = key.isEmpty := by cases key <;> simp
    have e3 := streq value [42]
    have e4 := streq value [68, 65, 84, 65]
    have e5 : decide (((ps.length + 1 : Nat) : Int) = 0) = false := decide_eq_false (by omega)
    have hp0 : ((0 : Int) < ((ps.length + 1 : Nat) : Int)) := by omega
    have hk : kindJ ⟨line, name, op, ⟨key, value, parts⟩ :: ps, data⟩ = if (op == [68, 68]) && key.isEmpty then (if value == [42] then 1 else if value == [68, 65, 84, 65] then 2 else 0) else 0 := rfl
    rw [hk]
    generalize (op == ([68, 68] : Jb)) = b1 at e1
    generalize key.isEmpty = b2 at e2
    generalize (value == ([42] : Jb)) = b3 at e3
    generalize (value == ([68, 65, 84, 65] : Jb)) = b4 at e4
    obtain ⟨K, hK⟩ : ∃ K, (if (b1 && b2) = true then (if b3 = true then 1 else if b4 = true then 2 else 0) else 0) = K := ⟨_, rfl⟩
    rw [hK]
    refine spec_of tt_ok Tryz.func16 rfl (by decide) Tryz.ntmps16 (congrArg Array.toList Tryz.results16) (by simp) (by decide) rfl rfl (fun F hF => ?_)
    refine vwp_seq_k fun Na hNa => vreg tt_ok hF rfl ?_; simp only [go_sem, Int.reduceEq, Int.reduceNe, Int.reduceLT, Int.reduceLE, Nat.reduceEqDiff, Nat.reduceAdd, Nat.reduceMul, Nat.reduceLT, Nat.reduceLeDiff, Nat.reduceSub, reduceCtorEq, reduceIte, Int.reduceToNat, beq_self_eq_true, Bool.and_self, List.take_length, decide_true, Bool.not_true, Bool.not_false]
    refine hNa _ (VWp.keep [1] [1] ?_); simp only [go_sem, Int.reduceEq, Int.reduceNe, Int.reduceLT, Int.reduceLE, Nat.reduceEqDiff, Nat.reduceAdd, Nat.reduceMul, Nat.reduceLT, Nat.reduceLeDiff, Nat.reduceSub, reduceCtorEq, reduceIte, Int.reduceToNat, beq_self_eq_true, Bool.and_self, List.take_length, decide_true, Bool.not_true, Bool.not_false]
    refine vwp_seq_k fun Nb hNb => ?_
    refine vmeet (fun z : Bool => [(1, .ptr 1 0), (19, .bool z)]) (fun _ => [(1, .box 34 (stmC ⟨line, name, op, ⟨key, value, parts⟩ :: ps, data⟩))]) (fun z => z = !(b1 && b2)) ?_ ?_
    · cases b1 <;> cases b2
      all_goals
        refine vreg tt_ok hF rfl ?_; simp only [go_sem, Int.reduceEq, Int.reduceNe, Int.reduceLT, Int.reduceLE, Nat.reduceEqDiff, Nat.reduceAdd, Nat.reduceMul, Nat.reduceLT, Nat.reduceLeDiff, Nat.reduceSub, reduceCtorEq, reduceIte, Int.reduceToNat, beq_self_eq_true, Bool.and_self, List.take_length, decide_true, Bool.not_true, Bool.not_false, List.map_cons, List.length_cons, List.length_map, e1, e2, e5, hp0]
        exact ⟨_, rfl, by simp [prmsV, prmC, strsV, stmC]⟩
    intro z hz
    refine vif rfl ⟨fun ht => ?_, fun hf => ?_⟩
    · have hc : (b1 && b2) = false := by rw [ht] at hz; revert hz; cases b1 <;> cases b2 <;> simp
      rw [hc] at hK
      simp only [Bool.false_eq_true, if_false] at hK
      subst hK
      refine vwp_seq_k fun Nd hNd => vreg tt_ok hF rfl ?_; simp only [go_sem, Int.reduceEq, Int.reduceNe, Int.reduceLT, Int.reduceLE, Nat.reduceEqDiff, Nat.reduceAdd, Nat.reduceMul, Nat.reduceLT, Nat.reduceLeDiff, Nat.reduceSub, reduceCtorEq, reduceIte, Int.reduceToNat, beq_self_eq_true, Bool.and_self, List.take_length, decide_true, Bool.not_true, Bool.not_false]
      refine hNd _ (VWp.keep [2] [] ?_); simp only [go_sem, Int.reduceEq, Int.reduceNe, Int.reduceLT, Int.reduceLE, Nat.reduceEqDiff, Nat.reduceAdd, Nat.reduceMul, Nat.reduceLT, Nat.reduceLeDiff, Nat.reduceSub, reduceCtorEq, reduceIte, Int.reduceToNat, beq_self_eq_true, Bool.and_self, List.take_length, decide_true, Bool.not_true, Bool.not_false]
      refine vwp_ret ?_
      simp only [go_sem, Int.reduceEq, Int.reduceNe, Int.reduceLT, Int.reduceLE, Nat.reduceEqDiff, Nat.reduceAdd, Nat.reduceMul, Nat.reduceLT, Nat.reduceLeDiff, Nat.reduceSub, reduceCtorEq, reduceIte, Int.reduceToNat, beq_self_eq_true, Bool.and_self, List.take_length, decide_true, Bool.not_true, Bool.not_false]
      exact LeV.refl _
    · have hc : (b1 && b2) = true := by rw [hf] at hz; revert hz; cases b1 <;> cases b2 <;> simp
      rw [hc, if_pos rfl] at hK
      refine vwp_skip (hNb _ ?_)
      refine vwp_seq_k fun Ne hNe => ?_
      refine vwp_seq_k fun Nf hNf => vreg tt_ok hF rfl ?_; simp only [go_sem, Int.reduceEq, Int.reduceNe, Int.reduceLT, Int.reduceLE, Nat.reduceEqDiff, Nat.reduceAdd, Nat.reduceMul, Nat.reduceLT, Nat.reduceLeDiff, Nat.reduceSub, reduceCtorEq, reduceIte, Int.reduceToNat, beq_self_eq_true, Bool.and_self, List.take_length, decide_true, Bool.not_true, Bool.not_false, List.map_cons, List.length_cons, List.length_map, hp0, e3]
      refine hNf _ (VWp.keep [1,25] [1] ?_); simp only [go_sem, Int.reduceEq, Int.reduceNe, Int.reduceLT, Int.reduceLE, Nat.reduceEqDiff, Nat.reduceAdd, Nat.reduceMul, Nat.reduceLT, Nat.reduceLeDiff, Nat.reduceSub, reduceCtorEq, reduceIte, Int.reduceToNat, beq_self_eq_true, Bool.and_self, List.take_length, decide_true, Bool.not_true, Bool.not_false]
      refine vif rfl ⟨fun ht => ?_, fun hf => ?_⟩
      · rw [if_pos ht] at hK
        subst hK
        refine vwp_seq_k fun Ng hNg => vreg tt_ok hF rfl ?_; simp only [go_sem, Int.reduceEq, Int.reduceNe, Int.reduceLT, Int.reduceLE, Nat.reduceEqDiff, Nat.reduceAdd, Nat.reduceMul, Nat.reduceLT, Nat.reduceLeDiff, Nat.reduceSub, reduceCtorEq, reduceIte, Int.reduceToNat, beq_self_eq_true, Bool.and_self, List.take_length, decide_true, Bool.not_true, Bool.not_false]
        refine hNg _ (VWp.keep [2] [] ?_); simp only [go_sem, Int.reduceEq, Int.reduceNe, Int.reduceLT, Int.reduceLE, Nat.reduceEqDiff, Nat.reduceAdd, Nat.reduceMul, Nat.reduceLT, Nat.reduceLeDiff, Nat.reduceSub, reduceCtorEq, reduceIte, Int.reduceToNat, beq_self_eq_true, Bool.and_self, List.take_length, decide_true, Bool.not_true, Bool.not_false]
        refine vwp_ret ?_
        simp only [go_sem, Int.reduceEq, Int.reduceNe, Int.reduceLT, Int.reduceLE, Nat.reduceEqDiff, Nat.reduceAdd, Nat.reduceMul, Nat.reduceLT, Nat.reduceLeDiff, Nat.reduceSub, reduceCtorEq, reduceIte, Int.reduceToNat, beq_self_eq_true, Bool.and_self, List.take_length, decide_true, Bool.not_true, Bool.not_false]
        exact LeV.refl _
      · rw [if_neg (by rw [hf]; decide)] at hK
        refine vwp_skip (hNe _ ?_)
        refine vwp_seq_k fun Nh hNh => ?_
        refine vwp_seq_k fun Ni hNi => vreg tt_ok hF rfl ?_; simp only [go_sem, Int.reduceEq, Int.reduceNe, Int.reduceLT, Int.reduceLE, Nat.reduceEqDiff, Nat.reduceAdd, Nat.reduceMul, Nat.reduceLT, Nat.reduceLeDiff, Nat.reduceSub, reduceCtorEq, reduceIte, Int.reduceToNat, beq_self_eq_true, Bool.and_self, List.take_length, decide_true, Bool.not_true, Bool.not_false, List.map_cons, List.length_cons, List.length_map, hp0, e4]
        refine hNi _ (VWp.keep [31] [] ?_); simp only [go_sem, Int.reduceEq, Int.reduceNe, Int.reduceLT, Int.reduceLE, Nat.reduceEqDiff, Nat.reduceAdd, Nat.reduceMul, Nat.reduceLT, Nat.reduceLeDiff, Nat.reduceSub, reduceCtorEq, reduceIte, Int.reduceToNat, beq_self_eq_true, Bool.and_self, List.take_length, decide_true, Bool.not_true, Bool.not_false]
        refine vif rfl ⟨fun ht => ?_, fun hf => ?_⟩
        · rw [if_pos ht] at hK
          subst hK
          refine vwp_seq_k fun Nj hNj => vreg tt_ok hF rfl ?_; simp only [go_sem, Int.reduceEq, Int.reduceNe, Int.reduceLT, Int.reduceLE, Nat.reduceEqDiff, Nat.reduceAdd, Nat.reduceMul, Nat.reduceLT, Nat.reduceLeDiff, Nat.reduceSub, reduceCtorEq, reduceIte, Int.reduceToNat, beq_self_eq_true, Bool.and_self, List.take_length, decide_true, Bool.not_true, Bool.not_false]
          refine hNj _ (VWp.keep [2] [] ?_); simp only [go_sem, Int.reduceEq, Int.reduceNe, Int.reduceLT, Int.reduceLE, Nat.reduceEqDiff, Nat.reduceAdd, Nat.reduceMul, Nat.reduceLT, Nat.reduceLeDiff, Nat.reduceSub, reduceCtorEq, reduceIte, Int.reduceToNat, beq_self_eq_true, Bool.and_self, List.take_length, decide_true, Bool.not_true, Bool.not_false]
          refine vwp_ret ?_
          simp only [go_sem, Int.reduceEq, Int.reduceNe, Int.reduceLT, Int.reduceLE, Nat.reduceEqDiff, Nat.reduceAdd, Nat.reduceMul, Nat.reduceLT, Nat.reduceLeDiff, Nat.reduceSub, reduceCtorEq, reduceIte, Int.reduceToNat, beq_self_eq_true, Bool.and_self, List.take_length, decide_true, Bool.not_true, Bool.not_false]
          exact LeV.refl _
        · rw [if_neg (by rw [hf]; decide)] at hK
          subst hK
          refine vwp_skip (hNh _ ?_)
          refine vwp_seq_k fun Nk hNk => vreg tt_ok hF rfl ?_; simp only [go_sem, Int.reduceEq, Int.reduceNe, Int.reduceLT, Int.reduceLE, Nat.reduceEqDiff, Nat.reduceAdd, Nat.reduceMul, Nat.reduceLT, Nat.reduceLeDiff, Nat.reduceSub, reduceCtorEq, reduceIte, Int.reduceToNat, beq_self_eq_true, Bool.and_self, List.take_length, decide_true, Bool.not_true, Bool.not_false]
          refine hNk _ (VWp.keep [2] [] ?_); simp only [go_sem, Int.reduceEq, Int.reduceNe, Int.reduceLT, Int.reduceLE, Nat.reduceEqDiff, Nat.reduceAdd, Nat.reduceMul, Nat.reduceLT, Nat.reduceLeDiff, Nat.reduceSub, reduceCtorEq, reduceIte, Int.reduceToNat, beq_self_eq_true, Bool.and_self, List.take_length, decide_true, Bool.not_true, Bool.not_false]
          refine vwp_ret ?_
          simp only [go_sem, Int.reduceEq, Int.reduceNe, Int.reduceLT, Int.reduceLE, Nat.reduceEqDiff, Nat.reduceAdd, Nat.reduceMul, Nat.reduceLT, Nat.reduceLeDiff, Nat.reduceSub, reduceCtorEq, reduceIte, Int.reduceToNat, beq_self_eq_true, Bool.and_self, List.take_length, decide_true, Bool.not_true, Bool.not_false]
          exact LeV.refl _
end Go.Proofs.YtnaljgmcpagbbaaGreatDoor

/- The reference of layer 34: statements written. JclPrints. -/
-- SIMP: beq_self_eq_true, Bool.and_self, List.take_length, decide_true, Bool.not_true, Bool.not_false
namespace Go.Proofs.YtnaljgmcpagbbaaGreatDoor
open Go.RowKit
set_option linter.unusedVariables false
set_option linter.unusedSimpArgs false
set_option maxHeartbeats 8000000 in
set_option maxRecDepth 4000 in
theorem SameTexts_any (a b : List Jb) (ha : a.length ≤ 1000000000) : Spec Tryz.prog 8 [strsV a, strsV b] (.bool (decide (a = b))) := by
  obtain ⟨R, hR⟩ : ∃ R, decide (a = b) = R := ⟨_, rfl⟩
  rw [hR]
  have e0 : decide ((a.length : Int) = (b.length : Int)) = decide (a.length = b.length) := by apply decide_eq_decide.2; omega
  refine spec_of tt_ok Tryz.func8 rfl (by decide) Tryz.ntmps8 (congrArg Array.toList Tryz.results8) (by simp) (by decide) rfl rfl (fun F hF => ?_)
  refine vwp_seq_k fun Na hNa => vreg tt_ok hF rfl ?_; simp only [go_sem, Int.reduceEq, Int.reduceNe, Int.reduceLT, Int.reduceLE, Nat.reduceEqDiff, Nat.reduceAdd, Nat.reduceMul, Nat.reduceLT, Nat.reduceLeDiff, Nat.reduceSub, reduceCtorEq, reduceIte, Int.reduceToNat, beq_self_eq_true, Bool.and_self, List.take_length, decide_true, Bool.not_true, Bool.not_false]
  refine hNa _ (VWp.keep [0,1] [] ?_); simp only [go_sem, Int.reduceEq, Int.reduceNe, Int.reduceLT, Int.reduceLE, Nat.reduceEqDiff, Nat.reduceAdd, Nat.reduceMul, Nat.reduceLT, Nat.reduceLeDiff, Nat.reduceSub, reduceCtorEq, reduceIte, Int.reduceToNat, beq_self_eq_true, Bool.and_self, List.take_length, decide_true, Bool.not_true, Bool.not_false]
  refine vwp_seq_k fun Nb hNb => ?_
  by_cases hl : a.length = b.length
  · rw [decide_eq_true hl] at e0
    refine vwp_seq_k fun Nc hNc => vreg tt_ok hF rfl ?_; simp only [go_sem, Int.reduceEq, Int.reduceNe, Int.reduceLT, Int.reduceLE, Nat.reduceEqDiff, Nat.reduceAdd, Nat.reduceMul, Nat.reduceLT, Nat.reduceLeDiff, Nat.reduceSub, reduceCtorEq, reduceIte, Int.reduceToNat, beq_self_eq_true, Bool.and_self, List.take_length, decide_true, Bool.not_true, Bool.not_false, List.length_map, e0]
    refine hNc _ (VWp.keep [0,1,10] [] ?_); simp only [go_sem, Int.reduceEq, Int.reduceNe, Int.reduceLT, Int.reduceLE, Nat.reduceEqDiff, Nat.reduceAdd, Nat.reduceMul, Nat.reduceLT, Nat.reduceLeDiff, Nat.reduceSub, reduceCtorEq, reduceIte, Int.reduceToNat, beq_self_eq_true, Bool.and_self, List.take_length, decide_true, Bool.not_true, Bool.not_false]
    refine vif rfl ⟨fun ht => (by cases ht), fun hf => ?_⟩
    refine vwp_skip (hNb _ ?_)
    refine vwp_seq_k fun Ne hNe => ?_
    refine vwp_seq_k fun Nf hNf => vreg tt_ok hF rfl ?_; simp only [go_sem, Int.reduceEq, Int.reduceNe, Int.reduceLT, Int.reduceLE, Nat.reduceEqDiff, Nat.reduceAdd, Nat.reduceMul, Nat.reduceLT, Nat.reduceLeDiff, Nat.reduceSub, reduceCtorEq, reduceIte, Int.reduceToNat, beq_self_eq_true, Bool.and_self, List.take_length, decide_true, Bool.not_true, Bool.not_false]
    refine hNf _ (VWp.keep [0,1,5] [] ?_); simp only [go_sem, Int.reduceEq, Int.reduceNe, Int.reduceLT, Int.reduceLE, Nat.reduceEqDiff, Nat.reduceAdd, Nat.reduceMul, Nat.reduceLT, Nat.reduceLeDiff, Nat.reduceSub, reduceCtorEq, reduceIte, Int.reduceToNat, beq_self_eq_true, Bool.and_self, List.take_length, decide_true, Bool.not_true, Bool.not_false]
    refine vwp_block (vloop (fun m : Nat => [(0, strsV a), (1, strsV b), (5, .int .i64 (m : Int))]) (fun _ => []) (fun m => m ≤ a.length ∧ a.take m = b.take m) (fun m => a.length - m) 0 ⟨Nat.zero_le _, rfl⟩ (by simp only [go_sem, Int.reduceEq, Int.reduceNe, Int.reduceLT, Int.reduceLE, Nat.reduceEqDiff, Nat.reduceAdd, Nat.reduceMul, Nat.reduceLT, Nat.reduceLeDiff, Nat.reduceSub, reduceCtorEq, reduceIte, Int.reduceToNat, beq_self_eq_true, Bool.and_self, List.take_length, decide_true, Bool.not_true, Bool.not_false]) ?_)
    rintro m ⟨m1, m2⟩
    refine vwp_seq_k fun Ng hNg => ?_
    refine vwp_seq_k fun Nh hNh => vreg tt_ok hF rfl ?_; simp only [go_sem, Int.reduceEq, Int.reduceNe, Int.reduceLT, Int.reduceLE, Nat.reduceEqDiff, Nat.reduceAdd, Nat.reduceMul, Nat.reduceLT, Nat.reduceLeDiff, Nat.reduceSub, reduceCtorEq, reduceIte, Int.reduceToNat, beq_self_eq_true, Bool.and_self, List.take_length, decide_true, Bool.not_true, Bool.not_false, List.length_map]
    refine hNh _ (VWp.keep [0,1,5,14] [] ?_); simp only [go_sem, Int.reduceEq, Int.reduceNe, Int.reduceLT, Int.reduceLE, Nat.reduceEqDiff, Nat.reduceAdd, Nat.reduceMul, Nat.reduceLT, Nat.reduceLeDiff, Nat.reduceSub, reduceCtorEq, reduceIte, Int.reduceToNat, beq_self_eq_true, Bool.and_self, List.take_length, decide_true, Bool.not_true, Bool.not_false]
    refine vif rfl ⟨fun ht => ?_, fun hf => ?_⟩
    · have hlt : m < a.length := by have := of_decide_eq_true ht; omega
      obtain ⟨x, hx⟩ : ∃ x, a[m]? = some x := ⟨_, List.getElem?_eq_getElem hlt⟩
      obtain ⟨y, hy⟩ : ∃ y, b[m]? = some y := ⟨_, List.getElem?_eq_getElem (by omega)⟩
      have hr1 : (a.map fun w => [V.str w]).getD m [] = [.str x] := by simp [hx]
      have hr2 : (b.map fun w => [V.str w]).getD m [] = [.str y] := by simp [hy]
      have hp1 : (0 : Int) ≤ (m : Int) ∧ (m : Int) < (a.length : Int) := ⟨by omega, by omega⟩
      have hp2 : (0 : Int) ≤ (m : Int) ∧ (m : Int) < (b.length : Int) := ⟨by omega, by omega⟩
      refine vwp_skip (hNg _ ?_)
      refine vwp_seq_k fun Ni hNi => ?_
      refine vwp_block ?_
      have e1 := streq x y
      refine vwp_seq_k fun Nj hNj => vregd tt_ok mixed hF rfl (by kernel_rfl) (by kernel_rfl) ?_; simp only [go_sem, Int.reduceEq, Int.reduceNe, Int.reduceLT, Int.reduceLE, Nat.reduceEqDiff, Nat.reduceAdd, Nat.reduceMul, Nat.reduceLT, Nat.reduceLeDiff, Nat.reduceSub, reduceCtorEq, reduceIte, Int.reduceToNat, beq_self_eq_true, Bool.and_self, List.take_length, decide_true, Bool.not_true, Bool.not_false, List.length_map, hp1, hp2, hr1, hr2, e1]
      refine hNj _ (VWp.keep [0,1,5,25] [] ?_); simp only [go_sem, Int.reduceEq, Int.reduceNe, Int.reduceLT, Int.reduceLE, Nat.reduceEqDiff, Nat.reduceAdd, Nat.reduceMul, Nat.reduceLT, Nat.reduceLeDiff, Nat.reduceSub, reduceCtorEq, reduceIte, Int.reduceToNat, beq_self_eq_true, Bool.and_self, List.take_length, decide_true, Bool.not_true, Bool.not_false]
      cases hxy : (x == y)
      · refine vif rfl ⟨fun ht => ?_, fun hf => (by cases hf)⟩
        have hRf : R = false := by
          rw [← hR, decide_eq_false_iff_not]
          intro e
          rw [e, hy] at hx
          injection hx with hx
          subst hx; simp at hxy
        subst hRf
        refine vwp_seq_k fun Nk hNk => vreg tt_ok hF rfl ?_; simp only [go_sem, Int.reduceEq, Int.reduceNe, Int.reduceLT, Int.reduceLE, Nat.reduceEqDiff, Nat.reduceAdd, Nat.reduceMul, Nat.reduceLT, Nat.reduceLeDiff, Nat.reduceSub, reduceCtorEq, reduceIte, Int.reduceToNat, beq_self_eq_true, Bool.and_self, List.take_length, decide_true, Bool.not_true, Bool.not_false]
        refine hNk _ (VWp.keep [4] [] ?_); simp only [go_sem, Int.reduceEq, Int.reduceNe, Int.reduceLT, Int.reduceLE, Nat.reduceEqDiff, Nat.reduceAdd, Nat.reduceMul, Nat.reduceLT, Nat.reduceLeDiff, Nat.reduceSub, reduceCtorEq, reduceIte, Int.reduceToNat, beq_self_eq_true, Bool.and_self, List.take_length, decide_true, Bool.not_true, Bool.not_false]
        refine vwp_ret ?_
        simp only [go_sem, Int.reduceEq, Int.reduceNe, Int.reduceLT, Int.reduceLE, Nat.reduceEqDiff, Nat.reduceAdd, Nat.reduceMul, Nat.reduceLT, Nat.reduceLeDiff, Nat.reduceSub, reduceCtorEq, reduceIte, Int.reduceToNat, beq_self_eq_true, Bool.and_self, List.take_length, decide_true, Bool.not_true, Bool.not_false]
        exact LeV.refl _
      · have hxy : x = y := by simpa using hxy
        refine vif rfl ⟨fun ht => (by cases ht), fun hf => ?_⟩
        refine vwp_skip (hNi _ ?_)
        refine vreg tt_ok hF rfl ?_; simp only [go_sem, Int.reduceEq, Int.reduceNe, Int.reduceLT, Int.reduceLE, Nat.reduceEqDiff, Nat.reduceAdd, Nat.reduceMul, Nat.reduceLT, Nat.reduceLeDiff, Nat.reduceSub, reduceCtorEq, reduceIte, Int.reduceToNat, beq_self_eq_true, Bool.and_self, List.take_length, decide_true, Bool.not_true, Bool.not_false]
        rw [wrap_i64 (by omega) (by omega)]
        exact ⟨m + 1, ⟨by omega, by rw [List.take_add_one, List.take_add_one, hx, hy, m2, hxy]⟩, by omega, by simp⟩
    · have hm : m = a.length := by have := of_decide_eq_false hf; omega
      have hRt : R = true := by
        rw [← hR, decide_eq_true_iff]
        rw [hm, List.take_length, hl, List.take_length] at m2; exact m2
      subst hRt
      refine vwp_exit ?_
      simp only [go_sem, Int.reduceEq, Int.reduceNe, Int.reduceLT, Int.reduceLE, Nat.reduceEqDiff, Nat.reduceAdd, Nat.reduceMul, Nat.reduceLT, Nat.reduceLeDiff, Nat.reduceSub, reduceCtorEq, reduceIte, Int.reduceToNat, beq_self_eq_true, Bool.and_self, List.take_length, decide_true, Bool.not_true, Bool.not_false]
      refine hNe _ (VWp.keepR [] [] tt_ok hF rfl fun Nl hNl => ?_); simp only [go_sem, Int.reduceEq, Int.reduceNe, Int.reduceLT, Int.reduceLE, Nat.reduceEqDiff, Nat.reduceAdd, Nat.reduceMul, Nat.reduceLT, Nat.reduceLeDiff, Nat.reduceSub, reduceCtorEq, reduceIte, Int.reduceToNat, beq_self_eq_true, Bool.and_self, List.take_length, decide_true, Bool.not_true, Bool.not_false]
      refine hNl _ (VWp.keep [4] [] ?_); simp only [go_sem, Int.reduceEq, Int.reduceNe, Int.reduceLT, Int.reduceLE, Nat.reduceEqDiff, Nat.reduceAdd, Nat.reduceMul, Nat.reduceLT, Nat.reduceLeDiff, Nat.reduceSub, reduceCtorEq, reduceIte, Int.reduceToNat, beq_self_eq_true, Bool.and_self, List.take_length, decide_true, Bool.not_true, Bool.not_false]
      refine vwp_ret ?_
      simp only [go_sem, Int.reduceEq, Int.reduceNe, Int.reduceLT, Int.reduceLE, Nat.reduceEqDiff, Nat.reduceAdd, Nat.reduceMul, Nat.reduceLT, Nat.reduceLeDiff, Nat.reduceSub, reduceCtorEq, reduceIte, Int.reduceToNat, beq_self_eq_true, Bool.and_self, List.take_length, decide_true, Bool.not_true, Bool.not_false]
      exact LeV.refl _
  · rw [decide_eq_false hl] at e0
    have hRf : R = false := by rw [← hR, decide_eq_false_iff_not]; intro e; rw [e] at hl; exact hl rfl
    subst hRf
    refine vwp_seq_k fun Nc hNc => vreg tt_ok hF rfl ?_; simp only [go_sem, Int.reduceEq, Int.reduceNe, Int.reduceLT, Int.reduceLE, Nat.reduceEqDiff, Nat.reduceAdd, Nat.reduceMul, Nat.reduceLT, Nat.reduceLeDiff, Nat.reduceSub, reduceCtorEq, reduceIte, Int.reduceToNat, beq_self_eq_true, Bool.and_self, List.take_length, decide_true, Bool.not_true, Bool.not_false, List.length_map, e0]
    refine hNc _ (VWp.keep [0,1,10] [] ?_); simp only [go_sem, Int.reduceEq, Int.reduceNe, Int.reduceLT, Int.reduceLE, Nat.reduceEqDiff, Nat.reduceAdd, Nat.reduceMul, Nat.reduceLT, Nat.reduceLeDiff, Nat.reduceSub, reduceCtorEq, reduceIte, Int.reduceToNat, beq_self_eq_true, Bool.and_self, List.take_length, decide_true, Bool.not_true, Bool.not_false]
    refine vif rfl ⟨fun ht => ?_, fun hf => (by cases hf)⟩
    refine vwp_seq_k fun Nd hNd => vreg tt_ok hF rfl ?_; simp only [go_sem, Int.reduceEq, Int.reduceNe, Int.reduceLT, Int.reduceLE, Nat.reduceEqDiff, Nat.reduceAdd, Nat.reduceMul, Nat.reduceLT, Nat.reduceLeDiff, Nat.reduceSub, reduceCtorEq, reduceIte, Int.reduceToNat, beq_self_eq_true, Bool.and_self, List.take_length, decide_true, Bool.not_true, Bool.not_false]
    refine hNd _ (VWp.keep [4] [] ?_); simp only [go_sem, Int.reduceEq, Int.reduceNe, Int.reduceLT, Int.reduceLE, Nat.reduceEqDiff, Nat.reduceAdd, Nat.reduceMul, Nat.reduceLT, Nat.reduceLeDiff, Nat.reduceSub, reduceCtorEq, reduceIte, Int.reduceToNat, beq_self_eq_true, Bool.and_self, List.take_length, decide_true, Bool.not_true, Bool.not_false]
    refine vwp_ret ?_
    simp only [go_sem, Int.reduceEq, Int.reduceNe, Int.reduceLT, Int.reduceLE, Nat.reduceEqDiff, Nat.reduceAdd, Nat.reduceMul, Nat.reduceLT, Nat.reduceLeDiff, Nat.reduceSub, reduceCtorEq, reduceIte, Int.reduceToNat, beq_self_eq_true, Bool.and_self, List.take_length, decide_true, Bool.not_true, Bool.not_false]
    exact LeV.refl _
set_option maxHeartbeats 8000000 in
set_option maxRecDepth 4000 in
theorem written_spec (p : PrmJ) (hk : p.key.length ≤ 400000) (hv : p.value.length ≤ 400000) (hpp : p.parts.length ≤ 1000000000) : Spec Tryz.prog 34 [prmV p] (.tup [.str (txtS p), .bool (wordJ p).isSome]) := by
  obtain ⟨T, hT⟩ : ∃ T, txtS p = T := ⟨_, rfl⟩
  have hTl : T.length ≤ 900000 := by
    rw [← hT]; unfold txtS
    split
    · omega
    · simp; omega
  have h1 := param_spec T (by omega)
  have hw := wordJ_eq p
  rw [hT] at hw
  obtain ⟨R, hR⟩ : ∃ R, wordJ p = R := ⟨_, rfl⟩
  rw [hT, hR]
  rw [hR] at hw
  clear hR
  obtain ⟨key, value, parts⟩ := p
  have hk : key.length ≤ 400000 := hk
  have hv : value.length ≤ 400000 := hv
  have hT : (if key.isEmpty then value else key ++ 61 :: value) = T := hT
  have e1 : decide (key = ([] : Jb)) = key.isEmpty := by cases key <;> simp
  refine spec_of tt_ok Tryz.func34 rfl (by decide) Tryz.ntmps34 (congrArg Array.toList Tryz.results34) (by simp) (by decide) rfl rfl (fun F hF => ?_)
  refine vwp_seq_k fun Na hNa => vreg tt_ok hF rfl ?_; simp only [go_sem, Int.reduceEq, Int.reduceNe, Int.reduceLT, Int.reduceLE, Nat.reduceEqDiff, Nat.reduceAdd, Nat.reduceMul, Nat.reduceLT, Nat.reduceLeDiff, Nat.reduceSub, reduceCtorEq, reduceIte, Int.reduceToNat, beq_self_eq_true, Bool.and_self, List.take_length, decide_true, Bool.not_true, Bool.not_false]
  refine hNa _ (VWp.keepR [1] [1] tt_ok hF rfl fun Nb hNb => ?_); simp only [go_sem, Int.reduceEq, Int.reduceNe, Int.reduceLT, Int.reduceLE, Nat.reduceEqDiff, Nat.reduceAdd, Nat.reduceMul, Nat.reduceLT, Nat.reduceLeDiff, Nat.reduceSub, reduceCtorEq, reduceIte, Int.reduceToNat, beq_self_eq_true, Bool.and_self, List.take_length, decide_true, Bool.not_true, Bool.not_false]
  refine hNb _ (VWp.keep [1,4] [1] ?_); simp only [go_sem, Int.reduceEq, Int.reduceNe, Int.reduceLT, Int.reduceLE, Nat.reduceEqDiff, Nat.reduceAdd, Nat.reduceMul, Nat.reduceLT, Nat.reduceLeDiff, Nat.reduceSub, reduceCtorEq, reduceIte, Int.reduceToNat, beq_self_eq_true, Bool.and_self, List.take_length, decide_true, Bool.not_true, Bool.not_false]
  refine vmeet (fun _ : Unit => [(1, .ptr 1 0), (4, .str T)]) (fun _ => [(1, .box 37 (prmC ⟨key, value, parts⟩))]) (fun _ => True) ?_ ?_
  · cases hke : key.isEmpty
    · rw [hke] at e1 hT
      rw [if_neg (by decide)] at hT
      refine vwp_seq_k fun Nd hNd => vreg tt_ok hF rfl ?_; simp only [go_sem, Int.reduceEq, Int.reduceNe, Int.reduceLT, Int.reduceLE, Nat.reduceEqDiff, Nat.reduceAdd, Nat.reduceMul, Nat.reduceLT, Nat.reduceLeDiff, Nat.reduceSub, reduceCtorEq, reduceIte, Int.reduceToNat, beq_self_eq_true, Bool.and_self, List.take_length, decide_true, Bool.not_true, Bool.not_false, e1]
      refine hNd _ (VWp.keep [1,4,11] [1] ?_); simp only [go_sem, Int.reduceEq, Int.reduceNe, Int.reduceLT, Int.reduceLE, Nat.reduceEqDiff, Nat.reduceAdd, Nat.reduceMul, Nat.reduceLT, Nat.reduceLeDiff, Nat.reduceSub, reduceCtorEq, reduceIte, Int.reduceToNat, beq_self_eq_true, Bool.and_self, List.take_length, decide_true, Bool.not_true, Bool.not_false]
      refine vif rfl ⟨fun ht => ?_, fun hf => (by cases hf)⟩
      refine vreg tt_ok hF rfl ?_; simp only [go_sem, Int.reduceEq, Int.reduceNe, Int.reduceLT, Int.reduceLE, Nat.reduceEqDiff, Nat.reduceAdd, Nat.reduceMul, Nat.reduceLT, Nat.reduceLeDiff, Nat.reduceSub, reduceCtorEq, reduceIte, Int.reduceToNat, beq_self_eq_true, Bool.and_self, List.take_length, decide_true, Bool.not_true, Bool.not_false]
      try refine ⟨by omega, by simp; omega, ?_⟩
      exact ⟨(), by simp [← hT, prmC, strsV]⟩
    · rw [hke] at e1 hT
      rw [if_pos rfl] at hT
      refine vwp_seq_k fun Nd hNd => vreg tt_ok hF rfl ?_; simp only [go_sem, Int.reduceEq, Int.reduceNe, Int.reduceLT, Int.reduceLE, Nat.reduceEqDiff, Nat.reduceAdd, Nat.reduceMul, Nat.reduceLT, Nat.reduceLeDiff, Nat.reduceSub, reduceCtorEq, reduceIte, Int.reduceToNat, beq_self_eq_true, Bool.and_self, List.take_length, decide_true, Bool.not_true, Bool.not_false, e1]
      refine hNd _ (VWp.keep [1,4,11] [1] ?_); simp only [go_sem, Int.reduceEq, Int.reduceNe, Int.reduceLT, Int.reduceLE, Nat.reduceEqDiff, Nat.reduceAdd, Nat.reduceMul, Nat.reduceLT, Nat.reduceLeDiff, Nat.reduceSub, reduceCtorEq, reduceIte, Int.reduceToNat, beq_self_eq_true, Bool.and_self, List.take_length, decide_true, Bool.not_true, Bool.not_false]
      refine vif rfl ⟨fun ht => (by cases ht), fun hf => ?_⟩
      refine vwp_skip ?_
      simp only [go_sem, Int.reduceEq, Int.reduceNe, Int.reduceLT, Int.reduceLE, Nat.reduceEqDiff, Nat.reduceAdd, Nat.reduceMul, Nat.reduceLT, Nat.reduceLeDiff, Nat.reduceSub, reduceCtorEq, reduceIte, Int.reduceToNat, beq_self_eq_true, Bool.and_self, List.take_length, decide_true, Bool.not_true, Bool.not_false]
      exact ⟨(), by simp [← hT, prmC, strsV]⟩
  intro _ _
  simp only [prmC, strsV]
  rcases prm_ok T with ⟨q, hq, hqr⟩ | ⟨hq, q, hqr, _⟩
  · rw [hqr] at h1
    have hql := parseJ_parts hq
    obtain ⟨k2, v2, p2⟩ := q
    have hql : p2.length ≤ T.length + 1 := hql
    rw [hq] at hw
    have hw : R = if k2 = key ∧ v2 = value ∧ p2 = parts then some T else none := hw
    have h2 := SameTexts_any p2 parts (by omega)
    have e2 := streq k2 key
    have e3 := streq v2 value
    have hRs : R.isSome = ((k2 == key) && (v2 == value) && decide (p2 = parts)) := by
      rw [hw]
      by_cases g1 : k2 = key <;> by_cases g2 : v2 = value <;> by_cases g3 : p2 = parts <;> simp [g1, g2, g3]
    obtain ⟨RS, hRSe⟩ : ∃ b, R.isSome = b := ⟨_, rfl⟩
    rw [hRSe] at hRs
    generalize (k2 == key) = b1 at e2 hRs
    generalize (v2 == value) = b2 at e3 hRs
    generalize decide (p2 = parts) = b3 at h2 hRs
    refine vwp_seq_k fun Ne hNe => vreg tt_ok hF rfl ?_; simp only [go_sem, Int.reduceEq, Int.reduceNe, Int.reduceLT, Int.reduceLE, Nat.reduceEqDiff, Nat.reduceAdd, Nat.reduceMul, Nat.reduceLT, Nat.reduceLeDiff, Nat.reduceSub, reduceCtorEq, reduceIte, Int.reduceToNat, beq_self_eq_true, Bool.and_self, List.take_length, decide_true, Bool.not_true, Bool.not_false]
    refine .inl ⟨_, h1, ?_⟩; try simp only [go_sem, Int.reduceEq, Int.reduceNe, Int.reduceLT, Int.reduceLE, Nat.reduceEqDiff, Nat.reduceAdd, Nat.reduceMul, Nat.reduceLT, Nat.reduceLeDiff, Nat.reduceSub, reduceCtorEq, reduceIte, Int.reduceToNat, beq_self_eq_true, Bool.and_self, List.take_length, decide_true, Bool.not_true, Bool.not_false]
    refine hNe _ (VWp.keep [1,4,5,6] [1,5] ?_); simp only [go_sem, Int.reduceEq, Int.reduceNe, Int.reduceLT, Int.reduceLE, Nat.reduceEqDiff, Nat.reduceAdd, Nat.reduceMul, Nat.reduceLT, Nat.reduceLeDiff, Nat.reduceSub, reduceCtorEq, reduceIte, Int.reduceToNat, beq_self_eq_true, Bool.and_self, List.take_length, decide_true, Bool.not_true, Bool.not_false]
    cases b1
    · refine vwp_seq_k fun Nf hNf => vreg tt_ok hF rfl ?_; simp only [go_sem, Int.reduceEq, Int.reduceNe, Int.reduceLT, Int.reduceLE, Nat.reduceEqDiff, Nat.reduceAdd, Nat.reduceMul, Nat.reduceLT, Nat.reduceLeDiff, Nat.reduceSub, reduceCtorEq, reduceIte, Int.reduceToNat, beq_self_eq_true, Bool.and_self, List.take_length, decide_true, Bool.not_true, Bool.not_false, e2]
      refine hNf _ (VWp.keep [2,3] [] ?_); simp only [go_sem, Int.reduceEq, Int.reduceNe, Int.reduceLT, Int.reduceLE, Nat.reduceEqDiff, Nat.reduceAdd, Nat.reduceMul, Nat.reduceLT, Nat.reduceLeDiff, Nat.reduceSub, reduceCtorEq, reduceIte, Int.reduceToNat, beq_self_eq_true, Bool.and_self, List.take_length, decide_true, Bool.not_true, Bool.not_false]
      refine vwp_ret ?_
      simp only [go_sem, Int.reduceEq, Int.reduceNe, Int.reduceLT, Int.reduceLE, Nat.reduceEqDiff, Nat.reduceAdd, Nat.reduceMul, Nat.reduceLT, Nat.reduceLeDiff, Nat.reduceSub, reduceCtorEq, reduceIte, Int.reduceToNat, beq_self_eq_true, Bool.and_self, List.take_length, decide_true, Bool.not_true, Bool.not_false]
      rw [hRSe, hRs]; exact LeV.refl _
    · cases b2
      · refine vwp_seq_k fun Nf hNf => vreg tt_ok hF rfl ?_; simp only [go_sem, Int.reduceEq, Int.reduceNe, Int.reduceLT, Int.reduceLE, Nat.reduceEqDiff, Nat.reduceAdd, Nat.reduceMul, Nat.reduceLT, Nat.reduceLeDiff, Nat.reduceSub, reduceCtorEq, reduceIte, Int.reduceToNat, beq_self_eq_true, Bool.and_self, List.take_length, decide_true, Bool.not_true, Bool.not_false, e2, e3]
        refine hNf _ (VWp.keep [2,3] [] ?_); simp only [go_sem, Int.reduceEq, Int.reduceNe, Int.reduceLT, Int.reduceLE, Nat.reduceEqDiff, Nat.reduceAdd, Nat.reduceMul, Nat.reduceLT, Nat.reduceLeDiff, Nat.reduceSub, reduceCtorEq, reduceIte, Int.reduceToNat, beq_self_eq_true, Bool.and_self, List.take_length, decide_true, Bool.not_true, Bool.not_false]
        refine vwp_ret ?_
        simp only [go_sem, Int.reduceEq, Int.reduceNe, Int.reduceLT, Int.reduceLE, Nat.reduceEqDiff, Nat.reduceAdd, Nat.reduceMul, Nat.reduceLT, Nat.reduceLeDiff, Nat.reduceSub, reduceCtorEq, reduceIte, Int.reduceToNat, beq_self_eq_true, Bool.and_self, List.take_length, decide_true, Bool.not_true, Bool.not_false]
        rw [hRSe, hRs]; exact LeV.refl _
      · refine vwp_seq_k fun Nf hNf => vreg tt_ok hF rfl ?_; simp only [go_sem, Int.reduceEq, Int.reduceNe, Int.reduceLT, Int.reduceLE, Nat.reduceEqDiff, Nat.reduceAdd, Nat.reduceMul, Nat.reduceLT, Nat.reduceLeDiff, Nat.reduceSub, reduceCtorEq, reduceIte, Int.reduceToNat, beq_self_eq_true, Bool.and_self, List.take_length, decide_true, Bool.not_true, Bool.not_false, e2, e3]
        refine .inl ⟨_, h2, ?_⟩; try simp only [go_sem, Int.reduceEq, Int.reduceNe, Int.reduceLT, Int.reduceLE, Nat.reduceEqDiff, Nat.reduceAdd, Nat.reduceMul, Nat.reduceLT, Nat.reduceLeDiff, Nat.reduceSub, reduceCtorEq, reduceIte, Int.reduceToNat, beq_self_eq_true, Bool.and_self, List.take_length, decide_true, Bool.not_true, Bool.not_false]
        refine hNf _ (VWp.keep [2,3] [] ?_); simp only [go_sem, Int.reduceEq, Int.reduceNe, Int.reduceLT, Int.reduceLE, Nat.reduceEqDiff, Nat.reduceAdd, Nat.reduceMul, Nat.reduceLT, Nat.reduceLeDiff, Nat.reduceSub, reduceCtorEq, reduceIte, Int.reduceToNat, beq_self_eq_true, Bool.and_self, List.take_length, decide_true, Bool.not_true, Bool.not_false]
        refine vwp_ret ?_
        simp only [go_sem, Int.reduceEq, Int.reduceNe, Int.reduceLT, Int.reduceLE, Nat.reduceEqDiff, Nat.reduceAdd, Nat.reduceMul, Nat.reduceLT, Nat.reduceLeDiff, Nat.reduceSub, reduceCtorEq, reduceIte, Int.reduceToNat, beq_self_eq_true, Bool.and_self, List.take_length, decide_true, Bool.not_true, Bool.not_false]
        rw [hRSe, hRs]; exact LeV.of_eq (by simp)
  · rw [hqr] at h1
    rw [hq] at hw
    have hw : R = none := hw
    subst hw
    refine vwp_seq_k fun Ne hNe => vreg tt_ok hF rfl ?_; simp only [go_sem, Int.reduceEq, Int.reduceNe, Int.reduceLT, Int.reduceLE, Nat.reduceEqDiff, Nat.reduceAdd, Nat.reduceMul, Nat.reduceLT, Nat.reduceLeDiff, Nat.reduceSub, reduceCtorEq, reduceIte, Int.reduceToNat, beq_self_eq_true, Bool.and_self, List.take_length, decide_true, Bool.not_true, Bool.not_false]
    refine .inl ⟨_, h1, ?_⟩; try simp only [go_sem, Int.reduceEq, Int.reduceNe, Int.reduceLT, Int.reduceLE, Nat.reduceEqDiff, Nat.reduceAdd, Nat.reduceMul, Nat.reduceLT, Nat.reduceLeDiff, Nat.reduceSub, reduceCtorEq, reduceIte, Int.reduceToNat, beq_self_eq_true, Bool.and_self, List.take_length, decide_true, Bool.not_true, Bool.not_false]
    refine hNe _ (VWp.keepR [1,4,5,6] [1,5] tt_ok hF rfl fun Nf hNf => ?_); simp only [go_sem, Int.reduceEq, Int.reduceNe, Int.reduceLT, Int.reduceLE, Nat.reduceEqDiff, Nat.reduceAdd, Nat.reduceMul, Nat.reduceLT, Nat.reduceLeDiff, Nat.reduceSub, reduceCtorEq, reduceIte, Int.reduceToNat, beq_self_eq_true, Bool.and_self, List.take_length, decide_true, Bool.not_true, Bool.not_false]
    refine hNf _ (VWp.keep [2,3] [] ?_); simp only [go_sem, Int.reduceEq, Int.reduceNe, Int.reduceLT, Int.reduceLE, Nat.reduceEqDiff, Nat.reduceAdd, Nat.reduceMul, Nat.reduceLT, Nat.reduceLeDiff, Nat.reduceSub, reduceCtorEq, reduceIte, Int.reduceToNat, beq_self_eq_true, Bool.and_self, List.take_length, decide_true, Bool.not_true, Bool.not_false]
    refine vwp_ret ?_
    simp only [go_sem, Int.reduceEq, Int.reduceNe, Int.reduceLT, Int.reduceLE, Nat.reduceEqDiff, Nat.reduceAdd, Nat.reduceMul, Nat.reduceLT, Nat.reduceLeDiff, Nat.reduceSub, reduceCtorEq, reduceIte, Int.reduceToNat, beq_self_eq_true, Bool.and_self, List.take_length, decide_true, Bool.not_true, Bool.not_false]
    exact LeV.refl _
theorem rowsJ_last : ∀ (ps : List PrmJ) (i : Nat) (line : Jb) {p : PrmJ}, ps[ps.length - 1]? = some p → p.key = [] → p.value = [] → rowsJ i line ps = none
  | [], _, _, p, h, _, _ => by simp at h
  | [q], i, line, p, h, hk, hv => by
    simp at h; subst h
    rw [rowsJ_cons, word_some]
    have ht : txtS q = [] := by unfold txtS; rw [hk, hv]; rfl
    cases (wordJ q).isSome
    · rfl
    · rw [ht]; rfl
  | q :: r :: ps, i, line, p, h, hk, hv => by
    have hl : (r :: ps)[(r :: ps).length - 1]? = some p := by simpa using h
    rw [rowsJ_cons]
    cases wordJ q with
    | none => rfl
    | some t =>
      dsimp only
      generalize (if (r :: ps).isEmpty = true then t else t ++ [44]) = T2
      rw [rowsJ_last (r :: ps) _ (line ++ 32 :: T2) hl hk hv, rowsJ_last (r :: ps) _ (line ++ T2) hl hk hv, rowsJ_last (r :: ps) _ ([47, 47, 32] ++ T2) hl hk hv]
      repeat' (first | rfl | split)
def rrV (s : StmJ) : V := match rendJ s with
  | some r => .tup [strsV r, .bool true]
  | none => .tup [strsV [], .bool false]
theorem rrV_refs (s : StmJ) : (rrV s).refs = [] := by unfold rrV; split <;> rfl
set_option maxHeartbeats 16000000 in
set_option maxRecDepth 4000 in
theorem rows_spec (s : StmJ) (hn : s.name.length ≤ 400000) (ho : s.op.length ≤ 400000) (hl : s.params.length ≤ 1000000) (hp : ∀ p ∈ s.params, p.key.length ≤ 400000 ∧ p.value.length ≤ 400000 ∧ p.parts.length ≤ 1000000000) :
    Spec Tryz.prog 15 [stmV s] (rrV s) := by
  obtain ⟨RV, hRV⟩ : ∃ R, rrV s = R := ⟨_, rfl⟩
  have hrefs : RV.refs = [] := by rw [← hRV]; exact rrV_refs s
  rw [hRV]
  obtain ⟨line, name, op, params, data⟩ := s
  have hn : name.length ≤ 400000 := hn
  have ho : op.length ≤ 400000 := ho
  have hl : params.length ≤ 1000000 := hl
  have hp : ∀ p ∈ params, p.key.length ≤ 400000 ∧ p.value.length ≤ 400000 ∧ p.parts.length ≤ 1000000000 := hp
  have hRV : (match (if !labelJ name || !opJ op then none
    else match rowsJ 0 ([47, 47] ++ name ++ 32 :: op) params with
      | some r => if r.all (fun t => decide (t.length ≤ 80)) then some r else none
      | none => none) with
    | some r => .tup [strsV r, .bool true]
    | none => .tup [strsV [], .bool false]) = RV := hRV
  have h1 := label_spec name (by omega)
  have h2 := operation_spec op
  generalize labelJ name = b1 at h1 hRV
  generalize opJ op = b2 at h2 hRV
  refine spec_of tt_ok Tryz.func15 rfl (by decide) Tryz.ntmps15 (congrArg Array.toList Tryz.results15) (by simp) (by decide) hrefs rfl (fun F hF => ?_)
  refine vwp_seq_k fun Na hNa => vreg tt_ok hF rfl ?_; simp only [go_sem, Int.reduceEq, Int.reduceNe, Int.reduceLT, Int.reduceLE, Nat.reduceEqDiff, Nat.reduceAdd, Nat.reduceMul, Nat.reduceLT, Nat.reduceLeDiff, Nat.reduceSub, reduceCtorEq, reduceIte, Int.reduceToNat, beq_self_eq_true, Bool.and_self, List.take_length, decide_true, Bool.not_true, Bool.not_false]
  refine hNa _ (VWp.keep [1] [1] ?_); simp only [go_sem, Int.reduceEq, Int.reduceNe, Int.reduceLT, Int.reduceLE, Nat.reduceEqDiff, Nat.reduceAdd, Nat.reduceMul, Nat.reduceLT, Nat.reduceLeDiff, Nat.reduceSub, reduceCtorEq, reduceIte, Int.reduceToNat, beq_self_eq_true, Bool.and_self, List.take_length, decide_true, Bool.not_true, Bool.not_false]
  refine vwp_seq_k fun Nb hNb => ?_
  refine vmeet (fun z : Bool => [(1, .ptr 1 0), (19, .bool z)]) (fun _ => [(1, .box 34 (stmC ⟨line, name, op, params, data⟩))]) (fun z => z = (!b1 || !b2)) ?_ ?_
  · cases b1
    · refine vreg tt_ok hF rfl ?_; simp only [go_sem, Int.reduceEq, Int.reduceNe, Int.reduceLT, Int.reduceLE, Nat.reduceEqDiff, Nat.reduceAdd, Nat.reduceMul, Nat.reduceLT, Nat.reduceLeDiff, Nat.reduceSub, reduceCtorEq, reduceIte, Int.reduceToNat, beq_self_eq_true, Bool.and_self, List.take_length, decide_true, Bool.not_true, Bool.not_false]
      refine .inl ⟨_, h1, ?_⟩; try simp only [go_sem, Int.reduceEq, Int.reduceNe, Int.reduceLT, Int.reduceLE, Nat.reduceEqDiff, Nat.reduceAdd, Nat.reduceMul, Nat.reduceLT, Nat.reduceLeDiff, Nat.reduceSub, reduceCtorEq, reduceIte, Int.reduceToNat, beq_self_eq_true, Bool.and_self, List.take_length, decide_true, Bool.not_true, Bool.not_false]
      exact ⟨_, rfl, by simp [stmC, prmsV, strsV]⟩
    · refine vreg tt_ok hF rfl ?_; simp only [go_sem, Int.reduceEq, Int.reduceNe, Int.reduceLT, Int.reduceLE, Nat.reduceEqDiff, Nat.reduceAdd, Nat.reduceMul, Nat.reduceLT, Nat.reduceLeDiff, Nat.reduceSub, reduceCtorEq, reduceIte, Int.reduceToNat, beq_self_eq_true, Bool.and_self, List.take_length, decide_true, Bool.not_true, Bool.not_false]
      refine .inl ⟨_, h1, ?_⟩; try simp only [go_sem, Int.reduceEq, Int.reduceNe, Int.reduceLT, Int.reduceLE, Nat.reduceEqDiff, Nat.reduceAdd, Nat.reduceMul, Nat.reduceLT, Nat.reduceLeDiff, Nat.reduceSub, reduceCtorEq, reduceIte, Int.reduceToNat, beq_self_eq_true, Bool.and_self, List.take_length, decide_true, Bool.not_true, Bool.not_false]
      refine .inl ⟨_, h2, ?_⟩; try simp only [go_sem, Int.reduceEq, Int.reduceNe, Int.reduceLT, Int.reduceLE, Nat.reduceEqDiff, Nat.reduceAdd, Nat.reduceMul, Nat.reduceLT, Nat.reduceLeDiff, Nat.reduceSub, reduceCtorEq, reduceIte, Int.reduceToNat, beq_self_eq_true, Bool.and_self, List.take_length, decide_true, Bool.not_true, Bool.not_false]
      exact ⟨!b2, by simp, by simp [stmC, prmsV, strsV]⟩
  intro z hz
  simp only [stmC, prmsV, strsV]
  refine vif rfl ⟨fun ht => ?_, fun hf => ?_⟩
  · rw [if_pos (by rw [← hz]; exact ht)] at hRV
    subst hRV
    refine vwp_seq_k fun Nd hNd => vreg tt_ok hF rfl ?_; simp only [go_sem, Int.reduceEq, Int.reduceNe, Int.reduceLT, Int.reduceLE, Nat.reduceEqDiff, Nat.reduceAdd, Nat.reduceMul, Nat.reduceLT, Nat.reduceLeDiff, Nat.reduceSub, reduceCtorEq, reduceIte, Int.reduceToNat, beq_self_eq_true, Bool.and_self, List.take_length, decide_true, Bool.not_true, Bool.not_false]
    refine hNd _ (VWp.keep [2,3] [] ?_); simp only [go_sem, Int.reduceEq, Int.reduceNe, Int.reduceLT, Int.reduceLE, Nat.reduceEqDiff, Nat.reduceAdd, Nat.reduceMul, Nat.reduceLT, Nat.reduceLeDiff, Nat.reduceSub, reduceCtorEq, reduceIte, Int.reduceToNat, beq_self_eq_true, Bool.and_self, List.take_length, decide_true, Bool.not_true, Bool.not_false]
    refine vwp_ret ?_
    simp only [go_sem, Int.reduceEq, Int.reduceNe, Int.reduceLT, Int.reduceLE, Nat.reduceEqDiff, Nat.reduceAdd, Nat.reduceMul, Nat.reduceLT, Nat.reduceLeDiff, Nat.reduceSub, reduceCtorEq, reduceIte, Int.reduceToNat, beq_self_eq_true, Bool.and_self, List.take_length, decide_true, Bool.not_true, Bool.not_false]
    exact LeV.tup ⟨LeV.nil 1, LeV.refl _, trivial⟩
  rw [if_neg (by rw [← hz, hf]; decide)] at hRV
  refine vwp_skip (hNb _ ?_)
  refine vwp_seq_k fun Ne hNe => vreg tt_ok hF rfl ?_; simp only [go_sem, Int.reduceEq, Int.reduceNe, Int.reduceLT, Int.reduceLE, Nat.reduceEqDiff, Nat.reduceAdd, Nat.reduceMul, Nat.reduceLT, Nat.reduceLeDiff, Nat.reduceSub, reduceCtorEq, reduceIte, Int.reduceToNat, beq_self_eq_true, Bool.and_self, List.take_length, decide_true, Bool.not_true, Bool.not_false]
  refine ⟨by first | omega | (simp; omega), by first | omega | (simp; omega), by first | omega | (simp; omega), ?_⟩
  refine hNe _ (VWp.keep [1,4] [1] ?_); simp only [go_sem, Int.reduceEq, Int.reduceNe, Int.reduceLT, Int.reduceLE, Nat.reduceEqDiff, Nat.reduceAdd, Nat.reduceMul, Nat.reduceLT, Nat.reduceLeDiff, Nat.reduceSub, reduceCtorEq, reduceIte, Int.reduceToNat, beq_self_eq_true, Bool.and_self, List.take_length, decide_true, Bool.not_true, Bool.not_false]
  obtain ⟨R, hR⟩ : ∃ R, rowsJ 0 ([47, 47] ++ name ++ 32 :: op) params = R := ⟨_, rfl⟩
  rw [hR] at hRV
  have hlast : ∀ p, params[params.length - 1]? = some p → p.key = [] → p.value = [] → R = none := fun p h1 h2 h3 => by rw [← hR]; exact rowsJ_last params _ _ h1 h2 h3
  refine vwp_seq_k fun Nf hNf => ?_
  refine vmeet (fun z : Bool => [(1, .ptr 1 0), (4, .str ([47, 47] ++ name ++ 32 :: op)), (54, .bool z)]) (fun _ => [(1, .box 34 (stmC ⟨line, name, op, params, data⟩))]) (fun z => (z = true → R = none) ∧ (z = false → ∀ p, params[params.length - 1]? = some p → ¬ (p.key = [] ∧ p.value = []))) ?_ ?_
  · by_cases hpe : params.length = 0
    · have e0 : decide ((0 : Int) < (params.length : Int)) = false := decide_eq_false (by omega)
      refine vreg tt_ok hF rfl ?_; simp only [go_sem, Int.reduceEq, Int.reduceNe, Int.reduceLT, Int.reduceLE, Nat.reduceEqDiff, Nat.reduceAdd, Nat.reduceMul, Nat.reduceLT, Nat.reduceLeDiff, Nat.reduceSub, reduceCtorEq, reduceIte, Int.reduceToNat, beq_self_eq_true, Bool.and_self, List.take_length, decide_true, Bool.not_true, Bool.not_false, List.length_map, e0]
      exact ⟨false, ⟨(fun h => by cases h), (fun _ p h => by rw [List.length_eq_zero_iff.1 hpe] at h; simp at h)⟩, by simp [stmC, prmsV, strsV]⟩
    · have e0 : decide ((0 : Int) < (params.length : Int)) = true := decide_eq_true (by omega)
      obtain ⟨p, hg⟩ : ∃ p, params[params.length - 1]? = some p := ⟨_, List.getElem?_eq_getElem (by omega)⟩
      have hw : IntKind.i64.wrap ((params.length : Int) - 1) = ((params.length - 1 : Nat) : Int) := by rw [wrap_i64 (by omega) (by omega)]; omega
      have hrow : (params.map prmC).getD (params.length - 1) [] = [.str p.key, .str p.value, .sl 1 (p.parts.map fun w => [V.str w])] := by simp [hg, prmC, strsV]
      have hpi : (0 : Int) ≤ ((params.length - 1 : Nat) : Int) ∧ ((params.length - 1 : Nat) : Int) < (params.length : Int) := ⟨by omega, by omega⟩
      have e1 : decide (p.key = ([] : Jb)) = p.key.isEmpty := by cases p.key <;> simp
      have e2 : decide (p.value = ([] : Jb)) = p.value.isEmpty := by cases p.value <;> simp
      have f1 : p.key.isEmpty = true → p.key = [] := List.isEmpty_iff.1
      have f2 : p.value.isEmpty = true → p.value = [] := List.isEmpty_iff.1
      have f3 : p.key = [] → p.key.isEmpty = true := List.isEmpty_iff.2
      have f4 : p.value = [] → p.value.isEmpty = true := List.isEmpty_iff.2
      have hl0 := hlast p hg
      generalize p.key.isEmpty = k1 at e1 f1 f3
      generalize p.value.isEmpty = k2 at e2 f2 f4
      cases k1
      · refine vreg tt_ok hF rfl ?_; simp only [go_sem, Int.reduceEq, Int.reduceNe, Int.reduceLT, Int.reduceLE, Nat.reduceEqDiff, Nat.reduceAdd, Nat.reduceMul, Nat.reduceLT, Nat.reduceLeDiff, Nat.reduceSub, reduceCtorEq, reduceIte, Int.reduceToNat, beq_self_eq_true, Bool.and_self, List.take_length, decide_true, Bool.not_true, Bool.not_false, List.length_map, e0, hw, hrow, hpi, e1]
        exact ⟨false, ⟨(fun h => by cases h), (fun _ q hq => by rw [hg] at hq; injection hq with hq; subst hq; exact fun h => by have := f3 h.1; cases this)⟩, by simp [stmC, prmsV, strsV]⟩
      · refine vreg tt_ok hF rfl ?_; simp only [go_sem, Int.reduceEq, Int.reduceNe, Int.reduceLT, Int.reduceLE, Nat.reduceEqDiff, Nat.reduceAdd, Nat.reduceMul, Nat.reduceLT, Nat.reduceLeDiff, Nat.reduceSub, reduceCtorEq, reduceIte, Int.reduceToNat, beq_self_eq_true, Bool.and_self, List.take_length, decide_true, Bool.not_true, Bool.not_false, List.length_map, e0, hw, hrow, hpi, e1, e2]
        exact ⟨k2, ⟨(fun h => hl0 (f1 rfl) (f2 h)), (fun h q hq => by rw [hg] at hq; injection hq with hq; subst hq; exact fun h' => by have := f4 h'.2; rw [h] at this; cases this)⟩, by simp [stmC, prmsV, strsV]⟩
  rintro y ⟨y1, y2⟩
  simp only [stmC, prmsV, strsV]
  refine vif rfl ⟨fun ht => ?_, fun hf => ?_⟩
  · rw [y1 ht] at hRV
    subst hRV
    refine vwp_seq_k fun Nh hNh => vreg tt_ok hF rfl ?_; simp only [go_sem, Int.reduceEq, Int.reduceNe, Int.reduceLT, Int.reduceLE, Nat.reduceEqDiff, Nat.reduceAdd, Nat.reduceMul, Nat.reduceLT, Nat.reduceLeDiff, Nat.reduceSub, reduceCtorEq, reduceIte, Int.reduceToNat, beq_self_eq_true, Bool.and_self, List.take_length, decide_true, Bool.not_true, Bool.not_false]
    refine hNh _ (VWp.keep [2,3] [] ?_); simp only [go_sem, Int.reduceEq, Int.reduceNe, Int.reduceLT, Int.reduceLE, Nat.reduceEqDiff, Nat.reduceAdd, Nat.reduceMul, Nat.reduceLT, Nat.reduceLeDiff, Nat.reduceSub, reduceCtorEq, reduceIte, Int.reduceToNat, beq_self_eq_true, Bool.and_self, List.take_length, decide_true, Bool.not_true, Bool.not_false]
    refine vwp_ret ?_
    simp only [go_sem, Int.reduceEq, Int.reduceNe, Int.reduceLT, Int.reduceLE, Nat.reduceEqDiff, Nat.reduceAdd, Nat.reduceMul, Nat.reduceLT, Nat.reduceLeDiff, Nat.reduceSub, reduceCtorEq, reduceIte, Int.reduceToNat, beq_self_eq_true, Bool.and_self, List.take_length, decide_true, Bool.not_true, Bool.not_false]
    exact LeV.tup ⟨LeV.nil 1, LeV.refl _, trivial⟩
  have hne := y2 hf
  refine vwp_skip (hNf _ ?_)
  refine vwp_seq_k fun Ni hNi => vreg tt_ok hF rfl ?_; simp only [go_sem, Int.reduceEq, Int.reduceNe, Int.reduceLT, Int.reduceLE, Nat.reduceEqDiff, Nat.reduceAdd, Nat.reduceMul, Nat.reduceLT, Nat.reduceLeDiff, Nat.reduceSub, reduceCtorEq, reduceIte, Int.reduceToNat, beq_self_eq_true, Bool.and_self, List.take_length, decide_true, Bool.not_true, Bool.not_false]
  refine hNi _ (VWp.keep [1,4,5] [1] ?_); simp only [go_sem, Int.reduceEq, Int.reduceNe, Int.reduceLT, Int.reduceLE, Nat.reduceEqDiff, Nat.reduceAdd, Nat.reduceMul, Nat.reduceLT, Nat.reduceLeDiff, Nat.reduceSub, reduceCtorEq, reduceIte, Int.reduceToNat, beq_self_eq_true, Bool.and_self, List.take_length, decide_true, Bool.not_true, Bool.not_false]
  refine vwp_seq_k fun Nj hNj => ?_
  refine vwp_seq_k fun Nk hNk => vreg tt_ok hF rfl ?_; simp only [go_sem, Int.reduceEq, Int.reduceNe, Int.reduceLT, Int.reduceLE, Nat.reduceEqDiff, Nat.reduceAdd, Nat.reduceMul, Nat.reduceLT, Nat.reduceLeDiff, Nat.reduceSub, reduceCtorEq, reduceIte, Int.reduceToNat, beq_self_eq_true, Bool.and_self, List.take_length, decide_true, Bool.not_true, Bool.not_false]
  refine hNk _ (VWp.keep [1,4,5,6] [1] ?_); simp only [go_sem, Int.reduceEq, Int.reduceNe, Int.reduceLT, Int.reduceLE, Nat.reduceEqDiff, Nat.reduceAdd, Nat.reduceMul, Nat.reduceLT, Nat.reduceLeDiff, Nat.reduceSub, reduceCtorEq, reduceIte, Int.reduceToNat, beq_self_eq_true, Bool.and_self, List.take_length, decide_true, Bool.not_true, Bool.not_false]
  refine VWp.adopt 500000 1 9 (x := 5) rfl rfl (by decide) ?_ (closed_of (by simp only [go_sem, Int.reduceEq, Int.reduceNe, Int.reduceLT, Int.reduceLE, Nat.reduceEqDiff, Nat.reduceAdd, Nat.reduceMul, Nat.reduceLT, Nat.reduceLeDiff, Nat.reduceSub, reduceCtorEq, reduceIte, Int.reduceToNat, beq_self_eq_true, Bool.and_self, List.take_length, decide_true, Bool.not_true, Bool.not_false]) (by simp only [go_sem, Int.reduceEq, Int.reduceNe, Int.reduceLT, Int.reduceLE, Nat.reduceEqDiff, Nat.reduceAdd, Nat.reduceMul, Nat.reduceLT, Nat.reduceLeDiff, Nat.reduceSub, reduceCtorEq, reduceIte, Int.reduceToNat, beq_self_eq_true, Bool.and_self, List.take_length, decide_true, Bool.not_true, Bool.not_false]))
  refine VWp.keep [1,4,5,6] [1,500000] ?_; simp only [go_sem, Int.reduceEq, Int.reduceNe, Int.reduceLT, Int.reduceLE, Nat.reduceEqDiff, Nat.reduceAdd, Nat.reduceMul, Nat.reduceLT, Nat.reduceLeDiff, Nat.reduceSub, reduceCtorEq, reduceIte, Int.reduceToNat, beq_self_eq_true, Bool.and_self, List.take_length, decide_true, Bool.not_true, Bool.not_false]
  refine vwp_block (vloop (fun z : Nat × Jb × List Jb => [(1, .ptr 1 0), (4, .str z.2.1), (5, .own 500000 z.2.2.length), (6, .int .i64 (z.1 : Int))])
    (fun z => [(1, .box 34 (stmC ⟨line, name, op, params, data⟩)), (500000, .arr 1 9 (z.2.2.map fun w => [V.str w]))])
    (fun z => z.1 ≤ params.length ∧ z.2.2.length ≤ z.1 ∧ (z.2.1.length ≤ 3000000 ∧ (z.1 = 0 → z.2.1.length ≤ 900000)) ∧ outR z.2.2 (rowsJ z.1 z.2.1 (params.drop z.1)) = R) (fun z => params.length - z.1) (0, [47, 47] ++ name ++ 32 :: op, []) ⟨Nat.zero_le _, Nat.le_refl _, ⟨by simp; omega, fun _ => by simp; omega⟩, by show outR [] (rowsJ 0 ([47, 47] ++ name ++ 32 :: op) (params.drop 0)) = R; rw [List.drop_zero, hR]; cases R <;> rfl⟩ (by simp only [go_sem, Int.reduceEq, Int.reduceNe, Int.reduceLT, Int.reduceLE, Nat.reduceEqDiff, Nat.reduceAdd, Nat.reduceMul, Nat.reduceLT, Nat.reduceLeDiff, Nat.reduceSub, reduceCtorEq, reduceIte, Int.reduceToNat, beq_self_eq_true, Bool.and_self, List.take_length, decide_true, Bool.not_true, Bool.not_false, List.length_map]; try simp [stmC, prmsV, strsV]) ?_)
  rintro ⟨m, ln, out⟩ ⟨m1, m2, ⟨m3, m5⟩, m4⟩
  have m1 : m ≤ params.length := m1
  have m2 : out.length ≤ m := m2
  have m3 : ln.length ≤ 3000000 := m3
  have m5 : m = 0 → ln.length ≤ 900000 := m5
  have m4 : outR out (rowsJ m ln (params.drop m)) = R := m4
  try dsimp only
  simp only [stmC, prmsV, strsV]
  refine vwp_seq_k fun Nl hNl => ?_
  refine vwp_seq_k fun Nm hNm => vreg tt_ok hF rfl ?_; simp only [go_sem, Int.reduceEq, Int.reduceNe, Int.reduceLT, Int.reduceLE, Nat.reduceEqDiff, Nat.reduceAdd, Nat.reduceMul, Nat.reduceLT, Nat.reduceLeDiff, Nat.reduceSub, reduceCtorEq, reduceIte, Int.reduceToNat, beq_self_eq_true, Bool.and_self, List.take_length, decide_true, Bool.not_true, Bool.not_false, List.length_map]
  refine hNm _ (VWp.keep [1,4,5,6,59] [1,500000] ?_); simp only [go_sem, Int.reduceEq, Int.reduceNe, Int.reduceLT, Int.reduceLE, Nat.reduceEqDiff, Nat.reduceAdd, Nat.reduceMul, Nat.reduceLT, Nat.reduceLeDiff, Nat.reduceSub, reduceCtorEq, reduceIte, Int.reduceToNat, beq_self_eq_true, Bool.and_self, List.take_length, decide_true, Bool.not_true, Bool.not_false]
  refine vif rfl ⟨fun ht => ?_, fun hf => ?_⟩
  · have hlt : m < params.length := by have := of_decide_eq_true ht; omega
    obtain ⟨p, hg⟩ : ∃ p, params[m]? = some p := ⟨_, List.getElem?_eq_getElem hlt⟩
    obtain ⟨p1, p2, p3⟩ := hp p (List.mem_of_getElem? hg)
    have h3 := written_spec p p1 p2 p3
    have h3 : Spec Tryz.prog 34 [.agg [.str p.key, .str p.value, .sl 1 (p.parts.map fun w => [V.str w])]] (.tup [.str (txtS p), .bool (wordJ p).isSome]) := h3
    have hrow : (params.map prmC).getD m [] = [.str p.key, .str p.value, .sl 1 (p.parts.map fun w => [V.str w])] := by simp [hg, prmC, strsV]
    have hpi : (0 : Int) ≤ (m : Int) ∧ (m : Int) < (params.length : Int) := ⟨by omega, by omega⟩
    have hTl : (txtS p).length ≤ 900000 := by
      unfold txtS
      split
      · omega
      · simp; omega
    rw [drop_consP params m hg, rowsJ_cons, word_some] at m4
    have m4 : outR out (if (wordJ p).isSome then (if (params.drop (m + 1)).isEmpty && (txtS p).isEmpty then none
      else if m == 0 then rowsJ (m + 1) (ln ++ 32 :: (if (params.drop (m + 1)).isEmpty then txtS p else txtS p ++ [44])) (params.drop (m + 1))
      else if ln.length + (if (params.drop (m + 1)).isEmpty then txtS p else txtS p ++ [44]).length ≤ 80 then rowsJ (m + 1) (ln ++ (if (params.drop (m + 1)).isEmpty then txtS p else txtS p ++ [44])) (params.drop (m + 1))
      else match rowsJ (m + 1) ([47, 47, 32] ++ (if (params.drop (m + 1)).isEmpty then txtS p else txtS p ++ [44])) (params.drop (m + 1)) with
        | some r => some (ln :: r)
        | none => none) else none) = R := by
      rw [← m4]
      cases (wordJ p).isSome <;> rfl
    have hdl : (params.drop (m + 1)).length = params.length - (m + 1) := List.length_drop
    have hlt2 : ((params.drop (m + 1)).isEmpty && (txtS p).isEmpty) = false := by
      cases hd : (params.drop (m + 1)).isEmpty
      · rfl
      · rw [List.isEmpty_iff, ← List.length_eq_zero_iff] at hd
        have hm : m = params.length - 1 := by omega
        have := hne p (by rw [← hm]; exact hg)
        cases hte : (txtS p).isEmpty
        · rfl
        · exfalso
          have ht := List.isEmpty_iff.1 hte
          unfold txtS at ht
          split at ht
          · rename_i hke; exact this ⟨List.isEmpty_iff.1 hke, ht⟩
          · simp at ht
    rw [hlt2] at m4
    have hw : IntKind.i64.wrap ((m : Int) + 1) = ((m + 1 : Nat) : Int) := by rw [wrap_i64 (by omega) (by omega)]; rfl
    have e1 : decide (((m + 1 : Nat) : Int) < (params.length : Int)) = !(params.drop (m + 1)).isEmpty := by
      rw [Bool.eq_iff_iff, decide_eq_true_iff, Bool.not_eq_true', ← Bool.not_eq_true, List.isEmpty_iff, ← List.length_eq_zero_iff]
      omega
    have e3 : decide ((m : Int) = 0) = (m == 0) := by
      by_cases h : m = 0
      · subst h; rfl
      · rw [decide_eq_false (by omega)]; simp [h]
    generalize (wordJ p).isSome = ok at h3 m4
    generalize txtS p = T at h3 m4 hTl
    obtain ⟨ps, hps⟩ : ∃ ps, params.drop (m + 1) = ps := ⟨_, rfl⟩
    rw [hps] at m4 e1
    generalize hlastE : ps.isEmpty = last at m4 e1
    refine vwp_skip (hNl _ ?_)
    refine vwp_seq_k fun Nn hNn => ?_
    refine vwp_block ?_
    refine vwp_seq_k fun No hNo => vreg tt_ok hF rfl ?_; simp only [go_sem, Int.reduceEq, Int.reduceNe, Int.reduceLT, Int.reduceLE, Nat.reduceEqDiff, Nat.reduceAdd, Nat.reduceMul, Nat.reduceLT, Nat.reduceLeDiff, Nat.reduceSub, reduceCtorEq, reduceIte, Int.reduceToNat, beq_self_eq_true, Bool.and_self, List.take_length, decide_true, Bool.not_true, Bool.not_false, List.length_map, hpi, hrow]
    refine .inl ⟨_, h3, ?_⟩; try simp only [go_sem, Int.reduceEq, Int.reduceNe, Int.reduceLT, Int.reduceLE, Nat.reduceEqDiff, Nat.reduceAdd, Nat.reduceMul, Nat.reduceLT, Nat.reduceLeDiff, Nat.reduceSub, reduceCtorEq, reduceIte, Int.reduceToNat, beq_self_eq_true, Bool.and_self, List.take_length, decide_true, Bool.not_true, Bool.not_false]
    refine hNo _ (VWp.keep [1,4,5,6,7,8] [1,500000] ?_); simp only [go_sem, Int.reduceEq, Int.reduceNe, Int.reduceLT, Int.reduceLE, Nat.reduceEqDiff, Nat.reduceAdd, Nat.reduceMul, Nat.reduceLT, Nat.reduceLeDiff, Nat.reduceSub, reduceCtorEq, reduceIte, Int.reduceToNat, beq_self_eq_true, Bool.and_self, List.take_length, decide_true, Bool.not_true, Bool.not_false]
    refine vwp_seq_k fun Np hNp => ?_
    refine vwp_seq_k fun Nq hNq => vreg tt_ok hF rfl ?_; simp only [go_sem, Int.reduceEq, Int.reduceNe, Int.reduceLT, Int.reduceLE, Nat.reduceEqDiff, Nat.reduceAdd, Nat.reduceMul, Nat.reduceLT, Nat.reduceLeDiff, Nat.reduceSub, reduceCtorEq, reduceIte, Int.reduceToNat, beq_self_eq_true, Bool.and_self, List.take_length, decide_true, Bool.not_true, Bool.not_false]
    refine hNq _ (VWp.keep [1,4,5,6,7,72] [1,500000] ?_); simp only [go_sem, Int.reduceEq, Int.reduceNe, Int.reduceLT, Int.reduceLE, Nat.reduceEqDiff, Nat.reduceAdd, Nat.reduceMul, Nat.reduceLT, Nat.reduceLeDiff, Nat.reduceSub, reduceCtorEq, reduceIte, Int.reduceToNat, beq_self_eq_true, Bool.and_self, List.take_length, decide_true, Bool.not_true, Bool.not_false]
    cases ok
    · have hRn : R = none := by rw [← m4]; rfl
      rw [hRn] at hRV
      subst hRV
      refine vif rfl ⟨fun ht => ?_, fun hf => (by cases hf)⟩
      refine vwp_seq_k fun Nr hNr => vreg tt_ok hF rfl ?_; simp only [go_sem, Int.reduceEq, Int.reduceNe, Int.reduceLT, Int.reduceLE, Nat.reduceEqDiff, Nat.reduceAdd, Nat.reduceMul, Nat.reduceLT, Nat.reduceLeDiff, Nat.reduceSub, reduceCtorEq, reduceIte, Int.reduceToNat, beq_self_eq_true, Bool.and_self, List.take_length, decide_true, Bool.not_true, Bool.not_false]
      refine hNr _ (VWp.keep [2,3] [] ?_); simp only [go_sem, Int.reduceEq, Int.reduceNe, Int.reduceLT, Int.reduceLE, Nat.reduceEqDiff, Nat.reduceAdd, Nat.reduceMul, Nat.reduceLT, Nat.reduceLeDiff, Nat.reduceSub, reduceCtorEq, reduceIte, Int.reduceToNat, beq_self_eq_true, Bool.and_self, List.take_length, decide_true, Bool.not_true, Bool.not_false]
      refine vwp_ret ?_
      simp only [go_sem, Int.reduceEq, Int.reduceNe, Int.reduceLT, Int.reduceLE, Nat.reduceEqDiff, Nat.reduceAdd, Nat.reduceMul, Nat.reduceLT, Nat.reduceLeDiff, Nat.reduceSub, reduceCtorEq, reduceIte, Int.reduceToNat, beq_self_eq_true, Bool.and_self, List.take_length, decide_true, Bool.not_true, Bool.not_false]
      exact LeV.tup ⟨LeV.nil 1, LeV.refl _, trivial⟩
    simp only [if_true, Bool.false_eq_true, if_false] at m4
    refine vif rfl ⟨fun ht => (by cases ht), fun hf => ?_⟩
    refine vwp_skip (hNp _ ?_)
    obtain ⟨T2, hT2⟩ : ∃ T2, (if last = true then T else T ++ [44]) = T2 := ⟨_, rfl⟩
    rw [hT2] at m4
    have hT2l : T2.length ≤ 900001 := by
      rw [← hT2]
      split
      · omega
      · rw [List.length_append, List.length_singleton]; omega
    refine vmeet (fun _ : Unit => [(1, .ptr 1 0), (4, .str ln), (5, .own 500000 out.length), (6, .int .i64 (m : Int)), (7, .str T2)]) (fun _ => [(1, .box 34 (stmC ⟨line, name, op, params, data⟩)), (500000, .arr 1 9 (out.map fun w => [V.str w]))]) (fun _ => True) ?_ ?_
    · cases last
      · rw [if_neg (by decide)] at hT2
        refine vwp_seq_k fun Nt hNt => vreg tt_ok hF rfl ?_; simp only [go_sem, Int.reduceEq, Int.reduceNe, Int.reduceLT, Int.reduceLE, Nat.reduceEqDiff, Nat.reduceAdd, Nat.reduceMul, Nat.reduceLT, Nat.reduceLeDiff, Nat.reduceSub, reduceCtorEq, reduceIte, Int.reduceToNat, beq_self_eq_true, Bool.and_self, List.take_length, decide_true, Bool.not_true, Bool.not_false, List.length_map, hw, e1]
        refine hNt _ (VWp.keep [1,4,5,6,7,78] [1,500000] ?_); simp only [go_sem, Int.reduceEq, Int.reduceNe, Int.reduceLT, Int.reduceLE, Nat.reduceEqDiff, Nat.reduceAdd, Nat.reduceMul, Nat.reduceLT, Nat.reduceLeDiff, Nat.reduceSub, reduceCtorEq, reduceIte, Int.reduceToNat, beq_self_eq_true, Bool.and_self, List.take_length, decide_true, Bool.not_true, Bool.not_false]
        refine vif rfl ⟨fun ht => ?_, fun hf => (by cases hf)⟩
        refine vreg tt_ok hF rfl ?_; simp only [go_sem, Int.reduceEq, Int.reduceNe, Int.reduceLT, Int.reduceLE, Nat.reduceEqDiff, Nat.reduceAdd, Nat.reduceMul, Nat.reduceLT, Nat.reduceLeDiff, Nat.reduceSub, reduceCtorEq, reduceIte, Int.reduceToNat, beq_self_eq_true, Bool.and_self, List.take_length, decide_true, Bool.not_true, Bool.not_false]
        first | (refine ⟨by first | omega | (simp; omega), ?_⟩) | skip
        exact ⟨(), by simp [← hT2, stmC, prmsV, strsV]⟩
      · rw [if_pos rfl] at hT2
        refine vwp_seq_k fun Nt hNt => vreg tt_ok hF rfl ?_; simp only [go_sem, Int.reduceEq, Int.reduceNe, Int.reduceLT, Int.reduceLE, Nat.reduceEqDiff, Nat.reduceAdd, Nat.reduceMul, Nat.reduceLT, Nat.reduceLeDiff, Nat.reduceSub, reduceCtorEq, reduceIte, Int.reduceToNat, beq_self_eq_true, Bool.and_self, List.take_length, decide_true, Bool.not_true, Bool.not_false, List.length_map, hw, e1]
        refine hNt _ (VWp.keep [1,4,5,6,7,78] [1,500000] ?_); simp only [go_sem, Int.reduceEq, Int.reduceNe, Int.reduceLT, Int.reduceLE, Nat.reduceEqDiff, Nat.reduceAdd, Nat.reduceMul, Nat.reduceLT, Nat.reduceLeDiff, Nat.reduceSub, reduceCtorEq, reduceIte, Int.reduceToNat, beq_self_eq_true, Bool.and_self, List.take_length, decide_true, Bool.not_true, Bool.not_false]
        refine vif rfl ⟨fun ht => (by cases ht), fun hf => ?_⟩
        refine vwp_skip ?_
        simp only [go_sem, Int.reduceEq, Int.reduceNe, Int.reduceLT, Int.reduceLE, Nat.reduceEqDiff, Nat.reduceAdd, Nat.reduceMul, Nat.reduceLT, Nat.reduceLeDiff, Nat.reduceSub, reduceCtorEq, reduceIte, Int.reduceToNat, beq_self_eq_true, Bool.and_self, List.take_length, decide_true, Bool.not_true, Bool.not_false]
        exact ⟨(), by simp [← hT2, stmC, prmsV, strsV]⟩
    intro _ _
    simp only [stmC, prmsV, strsV]
    refine vwp_seq_k fun Nu hNu => vreg tt_ok hF rfl ?_; simp only [go_sem, Int.reduceEq, Int.reduceNe, Int.reduceLT, Int.reduceLE, Nat.reduceEqDiff, Nat.reduceAdd, Nat.reduceMul, Nat.reduceLT, Nat.reduceLeDiff, Nat.reduceSub, reduceCtorEq, reduceIte, Int.reduceToNat, beq_self_eq_true, Bool.and_self, List.take_length, decide_true, Bool.not_true, Bool.not_false, e3]
    refine hNu _ (VWp.keep [1,4,5,6,7,82] [1,500000] ?_); simp only [go_sem, Int.reduceEq, Int.reduceNe, Int.reduceLT, Int.reduceLE, Nat.reduceEqDiff, Nat.reduceAdd, Nat.reduceMul, Nat.reduceLT, Nat.reduceLeDiff, Nat.reduceSub, reduceCtorEq, reduceIte, Int.reduceToNat, beq_self_eq_true, Bool.and_self, List.take_length, decide_true, Bool.not_true, Bool.not_false]
    cases hm0 : (m == 0)
    · rw [hm0] at m4
      simp only [Bool.false_eq_true, if_false] at m4
      refine vif rfl ⟨fun ht => (by cases ht), fun hf => ?_⟩
      have hwl : IntKind.i64.wrap ((ln.length : Int) + (T2.length : Int)) = ((ln.length + T2.length : Nat) : Int) := by rw [wrap_i64 (by omega) (by omega)]; rfl
      have e4 : decide (((ln.length + T2.length : Nat) : Int) ≤ 80) = decide (ln.length + T2.length ≤ 80) := by apply decide_eq_decide.2; omega
      refine vwp_seq_k fun Nv hNv => vreg tt_ok hF rfl ?_; simp only [go_sem, Int.reduceEq, Int.reduceNe, Int.reduceLT, Int.reduceLE, Nat.reduceEqDiff, Nat.reduceAdd, Nat.reduceMul, Nat.reduceLT, Nat.reduceLeDiff, Nat.reduceSub, reduceCtorEq, reduceIte, Int.reduceToNat, beq_self_eq_true, Bool.and_self, List.take_length, decide_true, Bool.not_true, Bool.not_false, hwl, e4]
      refine hNv _ (VWp.keep [1,4,5,6,7,92] [1,500000] ?_); simp only [go_sem, Int.reduceEq, Int.reduceNe, Int.reduceLT, Int.reduceLE, Nat.reduceEqDiff, Nat.reduceAdd, Nat.reduceMul, Nat.reduceLT, Nat.reduceLeDiff, Nat.reduceSub, reduceCtorEq, reduceIte, Int.reduceToNat, beq_self_eq_true, Bool.and_self, List.take_length, decide_true, Bool.not_true, Bool.not_false]
      refine vif rfl ⟨fun ht => ?_, fun hf => ?_⟩
      · have hle := of_decide_eq_true ht
        rw [if_pos hle] at m4
        refine vreg tt_ok hF rfl ?_; simp only [go_sem, Int.reduceEq, Int.reduceNe, Int.reduceLT, Int.reduceLE, Nat.reduceEqDiff, Nat.reduceAdd, Nat.reduceMul, Nat.reduceLT, Nat.reduceLeDiff, Nat.reduceSub, reduceCtorEq, reduceIte, Int.reduceToNat, beq_self_eq_true, Bool.and_self, List.take_length, decide_true, Bool.not_true, Bool.not_false]
        first | (refine ⟨by first | omega | (simp; omega), ?_⟩) | skip
        refine hNn _ (VWp.keep [1,4,5,6] [1,500000] ?_); simp only [go_sem, Int.reduceEq, Int.reduceNe, Int.reduceLT, Int.reduceLE, Nat.reduceEqDiff, Nat.reduceAdd, Nat.reduceMul, Nat.reduceLT, Nat.reduceLeDiff, Nat.reduceSub, reduceCtorEq, reduceIte, Int.reduceToNat, beq_self_eq_true, Bool.and_self, List.take_length, decide_true, Bool.not_true, Bool.not_false]
        refine vreg tt_ok hF rfl ?_; simp only [go_sem, Int.reduceEq, Int.reduceNe, Int.reduceLT, Int.reduceLE, Nat.reduceEqDiff, Nat.reduceAdd, Nat.reduceMul, Nat.reduceLT, Nat.reduceLeDiff, Nat.reduceSub, reduceCtorEq, reduceIte, Int.reduceToNat, beq_self_eq_true, Bool.and_self, List.take_length, decide_true, Bool.not_true, Bool.not_false]
        rw [wrap_i64 (by omega) (by omega)]
        exact ⟨(m + 1, ln ++ T2, out), ⟨by simp only; omega, by simp only; omega, ⟨by simp only [List.length_append]; omega, fun h => by simp only at h; omega⟩, by show outR out (rowsJ (m + 1) (ln ++ T2) (params.drop (m + 1))) = R; rw [hps]; exact m4⟩, by simp only; omega, by simp [stmC, prmsV, strsV]⟩
      · have hle := of_decide_eq_false hf
        rw [if_neg hle] at m4
        refine vwp_seq_k fun Nw hNw => vreg tt_ok hF rfl ?_; simp only [go_sem, Int.reduceEq, Int.reduceNe, Int.reduceLT, Int.reduceLE, Nat.reduceEqDiff, Nat.reduceAdd, Nat.reduceMul, Nat.reduceLT, Nat.reduceLeDiff, Nat.reduceSub, reduceCtorEq, reduceIte, Int.reduceToNat, beq_self_eq_true, Bool.and_self, List.take_length, decide_true, Bool.not_true, Bool.not_false]
        first | (refine ⟨by first | omega | (simp; omega), ?_⟩) | skip
        refine hNw _ (VWp.keep [1,5,6,7] [1,500000] ?_); simp only [go_sem, Int.reduceEq, Int.reduceNe, Int.reduceLT, Int.reduceLE, Nat.reduceEqDiff, Nat.reduceAdd, Nat.reduceMul, Nat.reduceLT, Nat.reduceLeDiff, Nat.reduceSub, reduceCtorEq, reduceIte, Int.reduceToNat, beq_self_eq_true, Bool.and_self, List.take_length, decide_true, Bool.not_true, Bool.not_false]
        refine vreg tt_ok hF rfl ?_; simp only [go_sem, Int.reduceEq, Int.reduceNe, Int.reduceLT, Int.reduceLE, Nat.reduceEqDiff, Nat.reduceAdd, Nat.reduceMul, Nat.reduceLT, Nat.reduceLeDiff, Nat.reduceSub, reduceCtorEq, reduceIte, Int.reduceToNat, beq_self_eq_true, Bool.and_self, List.take_length, decide_true, Bool.not_true, Bool.not_false]
        first | (refine ⟨by first | omega | (simp; omega), ?_⟩) | skip
        refine hNn _ (VWp.keep [1,4,5,6] [1,500000] ?_); simp only [go_sem, Int.reduceEq, Int.reduceNe, Int.reduceLT, Int.reduceLE, Nat.reduceEqDiff, Nat.reduceAdd, Nat.reduceMul, Nat.reduceLT, Nat.reduceLeDiff, Nat.reduceSub, reduceCtorEq, reduceIte, Int.reduceToNat, beq_self_eq_true, Bool.and_self, List.take_length, decide_true, Bool.not_true, Bool.not_false]
        refine vreg tt_ok hF rfl ?_; simp only [go_sem, Int.reduceEq, Int.reduceNe, Int.reduceLT, Int.reduceLE, Nat.reduceEqDiff, Nat.reduceAdd, Nat.reduceMul, Nat.reduceLT, Nat.reduceLeDiff, Nat.reduceSub, reduceCtorEq, reduceIte, Int.reduceToNat, beq_self_eq_true, Bool.and_self, List.take_length, decide_true, Bool.not_true, Bool.not_false]
        rw [wrap_i64 (by omega) (by omega)]
        refine ⟨(m + 1, [47, 47, 32] ++ T2, out ++ [ln]), ⟨by simp only; omega, by simp; omega, ⟨by simp only [List.length_append, List.length_cons, List.length_nil]; omega, fun h => by simp only at h; omega⟩, ?_⟩, by simp only; omega, by simp [stmC, prmsV, strsV]⟩
        show outR (out ++ [ln]) (rowsJ (m + 1) ([47, 47, 32] ++ T2) (params.drop (m + 1))) = R
        rw [hps, ← m4]
        generalize rowsJ (m + 1) ([47, 47, 32] ++ T2) ps = QR
        cases QR <;> simp [outR]
    · rw [hm0] at m4
      simp only [if_true] at m4
      have hm00 : m = 0 := by simpa using hm0
      refine vif rfl ⟨fun ht => ?_, fun hf => (by cases hf)⟩
      refine vreg tt_ok hF rfl ?_; simp only [go_sem, Int.reduceEq, Int.reduceNe, Int.reduceLT, Int.reduceLE, Nat.reduceEqDiff, Nat.reduceAdd, Nat.reduceMul, Nat.reduceLT, Nat.reduceLeDiff, Nat.reduceSub, reduceCtorEq, reduceIte, Int.reduceToNat, beq_self_eq_true, Bool.and_self, List.take_length, decide_true, Bool.not_true, Bool.not_false]
      first | (refine ⟨by first | omega | (simp; omega), by first | omega | (simp; omega), ?_⟩) | (refine ⟨by first | omega | (simp; omega), ?_⟩) | skip
      refine hNn _ (VWp.keep [1,4,5,6] [1,500000] ?_); simp only [go_sem, Int.reduceEq, Int.reduceNe, Int.reduceLT, Int.reduceLE, Nat.reduceEqDiff, Nat.reduceAdd, Nat.reduceMul, Nat.reduceLT, Nat.reduceLeDiff, Nat.reduceSub, reduceCtorEq, reduceIte, Int.reduceToNat, beq_self_eq_true, Bool.and_self, List.take_length, decide_true, Bool.not_true, Bool.not_false]
      refine vreg tt_ok hF rfl ?_; simp only [go_sem, Int.reduceEq, Int.reduceNe, Int.reduceLT, Int.reduceLE, Nat.reduceEqDiff, Nat.reduceAdd, Nat.reduceMul, Nat.reduceLT, Nat.reduceLeDiff, Nat.reduceSub, reduceCtorEq, reduceIte, Int.reduceToNat, beq_self_eq_true, Bool.and_self, List.take_length, decide_true, Bool.not_true, Bool.not_false]
      rw [wrap_i64 (by omega) (by omega)]
      exact ⟨(m + 1, ln ++ 32 :: T2, out), ⟨by simp only; omega, by simp only; omega, ⟨by have := m5 hm00; simp only [List.length_append, List.length_cons]; omega, fun h => by simp only at h; omega⟩, by show outR out (rowsJ (m + 1) (ln ++ 32 :: T2) (params.drop (m + 1))) = R; rw [hps]; exact m4⟩, by simp only; omega, by simp [stmC, prmsV, strsV]⟩
  · have hm : m = params.length := by have := of_decide_eq_false hf; omega
    subst hm
    rw [List.drop_length] at m4
    have m4 : some (out ++ [ln]) = R := m4
    subst m4
    obtain ⟨O2, hO2⟩ : ∃ O2, out ++ [ln] = O2 := ⟨_, rfl⟩
    have hRV : (match (if O2.all (fun t => decide (t.length ≤ 80)) then some O2 else none) with
      | some r => .tup [strsV r, .bool true]
      | none => .tup [strsV [], .bool false]) = RV := by rw [← hO2]; exact hRV
    have hO2l : O2.length ≤ 1000001 := by rw [← hO2]; simp; omega
    refine vwp_exit ?_
    simp only [go_sem, Int.reduceEq, Int.reduceNe, Int.reduceLT, Int.reduceLE, Nat.reduceEqDiff, Nat.reduceAdd, Nat.reduceMul, Nat.reduceLT, Nat.reduceLeDiff, Nat.reduceSub, reduceCtorEq, reduceIte, Int.reduceToNat, beq_self_eq_true, Bool.and_self, List.take_length, decide_true, Bool.not_true, Bool.not_false]
    refine hNj _ (VWp.keepR [4,5] [500000] tt_ok hF rfl fun Nx hNx => ?_); simp only [go_sem, Int.reduceEq, Int.reduceNe, Int.reduceLT, Int.reduceLE, Nat.reduceEqDiff, Nat.reduceAdd, Nat.reduceMul, Nat.reduceLT, Nat.reduceLeDiff, Nat.reduceSub, reduceCtorEq, reduceIte, Int.reduceToNat, beq_self_eq_true, Bool.and_self, List.take_length, decide_true, Bool.not_true, Bool.not_false]
    first | (refine ⟨by first | omega | (simp; omega), ?_⟩) | skip
    have hmapO : (out.map fun w => [V.str w]) ++ [[V.str ln]] = O2.map fun w => [V.str w] := by rw [← hO2]; simp
    rw [hmapO, List.length_map]
    refine hNx _ (VWp.keep [5] [500000] ?_); simp only [go_sem, Int.reduceEq, Int.reduceNe, Int.reduceLT, Int.reduceLE, Nat.reduceEqDiff, Nat.reduceAdd, Nat.reduceMul, Nat.reduceLT, Nat.reduceLeDiff, Nat.reduceSub, reduceCtorEq, reduceIte, Int.reduceToNat, beq_self_eq_true, Bool.and_self, List.take_length, decide_true, Bool.not_true, Bool.not_false]
    refine vwp_seq_k fun Ny hNy => ?_
    refine vwp_seq_k fun Nz hNz => vreg tt_ok hF rfl ?_; simp only [go_sem, Int.reduceEq, Int.reduceNe, Int.reduceLT, Int.reduceLE, Nat.reduceEqDiff, Nat.reduceAdd, Nat.reduceMul, Nat.reduceLT, Nat.reduceLeDiff, Nat.reduceSub, reduceCtorEq, reduceIte, Int.reduceToNat, beq_self_eq_true, Bool.and_self, List.take_length, decide_true, Bool.not_true, Bool.not_false]
    refine hNz _ (VWp.keep [5,9] [500000] ?_); simp only [go_sem, Int.reduceEq, Int.reduceNe, Int.reduceLT, Int.reduceLE, Nat.reduceEqDiff, Nat.reduceAdd, Nat.reduceMul, Nat.reduceLT, Nat.reduceLeDiff, Nat.reduceSub, reduceCtorEq, reduceIte, Int.reduceToNat, beq_self_eq_true, Bool.and_self, List.take_length, decide_true, Bool.not_true, Bool.not_false]
    refine vwp_block (vloop (fun q : Nat => [(5, .own 500000 O2.length), (9, .int .i64 (q : Int))]) (fun _ => [(500000, .arr 1 9 (O2.map fun w => [V.str w]))]) (fun q => q ≤ O2.length ∧ ∀ x ∈ O2.take q, x.length ≤ 80) (fun q => O2.length - q) 0 ⟨Nat.zero_le _, by simp⟩ (by simp only [go_sem, Int.reduceEq, Int.reduceNe, Int.reduceLT, Int.reduceLE, Nat.reduceEqDiff, Nat.reduceAdd, Nat.reduceMul, Nat.reduceLT, Nat.reduceLeDiff, Nat.reduceSub, reduceCtorEq, reduceIte, Int.reduceToNat, beq_self_eq_true, Bool.and_self, List.take_length, decide_true, Bool.not_true, Bool.not_false]) ?_)
    rintro q ⟨q1, q2⟩
    refine vwp_seq_k fun Naa hNaa => ?_
    refine vwp_seq_k fun Nab hNab => vreg tt_ok hF rfl ?_; simp only [go_sem, Int.reduceEq, Int.reduceNe, Int.reduceLT, Int.reduceLE, Nat.reduceEqDiff, Nat.reduceAdd, Nat.reduceMul, Nat.reduceLT, Nat.reduceLeDiff, Nat.reduceSub, reduceCtorEq, reduceIte, Int.reduceToNat, beq_self_eq_true, Bool.and_self, List.take_length, decide_true, Bool.not_true, Bool.not_false, List.length_map]
    refine hNab _ (VWp.keep [5,9,109] [500000] ?_); simp only [go_sem, Int.reduceEq, Int.reduceNe, Int.reduceLT, Int.reduceLE, Nat.reduceEqDiff, Nat.reduceAdd, Nat.reduceMul, Nat.reduceLT, Nat.reduceLeDiff, Nat.reduceSub, reduceCtorEq, reduceIte, Int.reduceToNat, beq_self_eq_true, Bool.and_self, List.take_length, decide_true, Bool.not_true, Bool.not_false]
    refine vif rfl ⟨fun ht => ?_, fun hf => ?_⟩
    · have hqlt : q < O2.length := by have := of_decide_eq_true ht; omega
      obtain ⟨x, hx⟩ : ∃ x, O2[q]? = some x := ⟨_, List.getElem?_eq_getElem hqlt⟩
      have hr1 : (O2.map fun w => [V.str w]).getD q [] = [.str x] := by simp [hx]
      have hp1 : (0 : Int) ≤ (q : Int) ∧ (q : Int) < (O2.length : Int) := ⟨by omega, by omega⟩
      have e5 : decide ((80 : Int) < (x.length : Int)) = !decide (x.length ≤ 80) := gt_nat 80 _
      refine vwp_skip (hNaa _ ?_)
      refine vwp_seq_k fun Nac hNac => ?_
      refine vwp_block ?_
      refine vwp_seq_k fun Nad hNad => vreg tt_ok hF rfl ?_; simp only [go_sem, Int.reduceEq, Int.reduceNe, Int.reduceLT, Int.reduceLE, Nat.reduceEqDiff, Nat.reduceAdd, Nat.reduceMul, Nat.reduceLT, Nat.reduceLeDiff, Nat.reduceSub, reduceCtorEq, reduceIte, Int.reduceToNat, beq_self_eq_true, Bool.and_self, List.take_length, decide_true, Bool.not_true, Bool.not_false, List.length_map, hp1, hr1, e5]
      refine hNad _ (VWp.keep [5,9,117] [500000] ?_); simp only [go_sem, Int.reduceEq, Int.reduceNe, Int.reduceLT, Int.reduceLE, Nat.reduceEqDiff, Nat.reduceAdd, Nat.reduceMul, Nat.reduceLT, Nat.reduceLeDiff, Nat.reduceSub, reduceCtorEq, reduceIte, Int.reduceToNat, beq_self_eq_true, Bool.and_self, List.take_length, decide_true, Bool.not_true, Bool.not_false]
      cases hx80 : decide (x.length ≤ 80)
      · refine vif rfl ⟨fun ht => ?_, fun hf => (by cases hf)⟩
        have hall : (O2.all fun t => decide (t.length ≤ 80)) = false := by
          rw [List.all_eq_false]
          exact ⟨x, List.mem_of_getElem? hx, by rw [hx80]; decide⟩
        rw [hall] at hRV
        have hRV : .tup [strsV [], .bool false] = RV := hRV
        subst hRV
        refine vwp_seq_k fun Nae hNae => vreg tt_ok hF rfl ?_; simp only [go_sem, Int.reduceEq, Int.reduceNe, Int.reduceLT, Int.reduceLE, Nat.reduceEqDiff, Nat.reduceAdd, Nat.reduceMul, Nat.reduceLT, Nat.reduceLeDiff, Nat.reduceSub, reduceCtorEq, reduceIte, Int.reduceToNat, beq_self_eq_true, Bool.and_self, List.take_length, decide_true, Bool.not_true, Bool.not_false]
        refine hNae _ (VWp.keep [2,3] [] ?_); simp only [go_sem, Int.reduceEq, Int.reduceNe, Int.reduceLT, Int.reduceLE, Nat.reduceEqDiff, Nat.reduceAdd, Nat.reduceMul, Nat.reduceLT, Nat.reduceLeDiff, Nat.reduceSub, reduceCtorEq, reduceIte, Int.reduceToNat, beq_self_eq_true, Bool.and_self, List.take_length, decide_true, Bool.not_true, Bool.not_false]
        refine vwp_ret ?_
        simp only [go_sem, Int.reduceEq, Int.reduceNe, Int.reduceLT, Int.reduceLE, Nat.reduceEqDiff, Nat.reduceAdd, Nat.reduceMul, Nat.reduceLT, Nat.reduceLeDiff, Nat.reduceSub, reduceCtorEq, reduceIte, Int.reduceToNat, beq_self_eq_true, Bool.and_self, List.take_length, decide_true, Bool.not_true, Bool.not_false]
        exact LeV.tup ⟨LeV.nil 1, LeV.refl _, trivial⟩
      · refine vif rfl ⟨fun ht => (by cases ht), fun hf => ?_⟩
        refine vwp_skip (hNac _ ?_)
        refine vreg tt_ok hF rfl ?_; simp only [go_sem, Int.reduceEq, Int.reduceNe, Int.reduceLT, Int.reduceLE, Nat.reduceEqDiff, Nat.reduceAdd, Nat.reduceMul, Nat.reduceLT, Nat.reduceLeDiff, Nat.reduceSub, reduceCtorEq, reduceIte, Int.reduceToNat, beq_self_eq_true, Bool.and_self, List.take_length, decide_true, Bool.not_true, Bool.not_false]
        rw [wrap_i64 (by omega) (by omega)]
        refine ⟨q + 1, ⟨by omega, fun y hy => ?_⟩, by omega, by simp⟩
        rw [List.take_add_one, hx] at hy
        rcases List.mem_append.1 hy with h | h
        · exact q2 y h
        · simp at h; subst h; exact of_decide_eq_true hx80
    · have hq : q = O2.length := by have := of_decide_eq_false hf; omega
      rw [hq, List.take_length] at q2
      have hall : (O2.all fun t => decide (t.length ≤ 80)) = true := by rw [List.all_eq_true]; exact fun x hx => decide_eq_true (q2 x hx)
      rw [hall] at hRV
      have hRV : .tup [strsV O2, .bool true] = RV := hRV
      subst hRV
      refine vwp_exit ?_
      simp only [go_sem, Int.reduceEq, Int.reduceNe, Int.reduceLT, Int.reduceLE, Nat.reduceEqDiff, Nat.reduceAdd, Nat.reduceMul, Nat.reduceLT, Nat.reduceLeDiff, Nat.reduceSub, reduceCtorEq, reduceIte, Int.reduceToNat, beq_self_eq_true, Bool.and_self, List.take_length, decide_true, Bool.not_true, Bool.not_false]
      refine hNy _ (VWp.keepR [5] [500000] tt_ok hF rfl fun Naf hNaf => ?_); simp only [go_sem, Int.reduceEq, Int.reduceNe, Int.reduceLT, Int.reduceLE, Nat.reduceEqDiff, Nat.reduceAdd, Nat.reduceMul, Nat.reduceLT, Nat.reduceLeDiff, Nat.reduceSub, reduceCtorEq, reduceIte, Int.reduceToNat, beq_self_eq_true, Bool.and_self, List.take_length, decide_true, Bool.not_true, Bool.not_false]
      refine hNaf _ (VWp.keep [2,3] [500000] ?_); simp only [go_sem, Int.reduceEq, Int.reduceNe, Int.reduceLT, Int.reduceLE, Nat.reduceEqDiff, Nat.reduceAdd, Nat.reduceMul, Nat.reduceLT, Nat.reduceLeDiff, Nat.reduceSub, reduceCtorEq, reduceIte, Int.reduceToNat, beq_self_eq_true, Bool.and_self, List.take_length, decide_true, Bool.not_true, Bool.not_false]
      refine vwp_ret ?_
      simp only [go_sem, Int.reduceEq, Int.reduceNe, Int.reduceLT, Int.reduceLE, Nat.reduceEqDiff, Nat.reduceAdd, Nat.reduceMul, Nat.reduceLT, Nat.reduceLeDiff, Nat.reduceSub, reduceCtorEq, reduceIte, Int.reduceToNat, beq_self_eq_true, Bool.and_self, List.take_length, decide_true, Bool.not_true, Bool.not_false]
      exact LeV.refl _
set_option maxHeartbeats 16000000 in
set_option maxRecDepth 4000 in
theorem rPrint_spec (l : List StmJ) (hl : l.length ≤ 300) (hs : ∀ s ∈ l, SmS s) : Spec Tryz.prog 7 [stmsV l] (prtV (printJ l)) := by
  obtain ⟨R, hR⟩ : ∃ R, printJ l = R := ⟨_, rfl⟩
  rw [hR]
  refine spec_of tt_ok Tryz.func7 rfl (by decide) Tryz.ntmps7 (congrArg Array.toList Tryz.results7) (by simp) (by decide) (by cases R <;> rfl) rfl (fun F hF => ?_)
  refine vwp_seq_k fun Na hNa => vreg tt_ok hF rfl ?_; simp only [go_sem, Int.reduceEq, Int.reduceNe, Int.reduceLT, Int.reduceLE, Nat.reduceEqDiff, Nat.reduceAdd, Nat.reduceMul, Nat.reduceLT, Nat.reduceLeDiff, Nat.reduceSub, reduceCtorEq, reduceIte, Int.reduceToNat, beq_self_eq_true, Bool.and_self, List.take_length, decide_true, Bool.not_true, Bool.not_false]
  refine hNa _ (VWp.keepR [0] [] tt_ok hF rfl fun Nb hNb => ?_); simp only [go_sem, Int.reduceEq, Int.reduceNe, Int.reduceLT, Int.reduceLE, Nat.reduceEqDiff, Nat.reduceAdd, Nat.reduceMul, Nat.reduceLT, Nat.reduceLeDiff, Nat.reduceSub, reduceCtorEq, reduceIte, Int.reduceToNat, beq_self_eq_true, Bool.and_self, List.take_length, decide_true, Bool.not_true, Bool.not_false]
  refine hNb _ (VWp.keep [0,4] [] ?_); simp only [go_sem, Int.reduceEq, Int.reduceNe, Int.reduceLT, Int.reduceLE, Nat.reduceEqDiff, Nat.reduceAdd, Nat.reduceMul, Nat.reduceLT, Nat.reduceLeDiff, Nat.reduceSub, reduceCtorEq, reduceIte, Int.reduceToNat, beq_self_eq_true, Bool.and_self, List.take_length, decide_true, Bool.not_true, Bool.not_false]
  refine vwp_seq_k fun Nc hNc => ?_
  refine vwp_seq_k fun Nd hNd => vreg tt_ok hF rfl ?_; simp only [go_sem, Int.reduceEq, Int.reduceNe, Int.reduceLT, Int.reduceLE, Nat.reduceEqDiff, Nat.reduceAdd, Nat.reduceMul, Nat.reduceLT, Nat.reduceLeDiff, Nat.reduceSub, reduceCtorEq, reduceIte, Int.reduceToNat, beq_self_eq_true, Bool.and_self, List.take_length, decide_true, Bool.not_true, Bool.not_false]
  refine hNd _ (VWp.keep [0,4,5] [] ?_); simp only [go_sem, Int.reduceEq, Int.reduceNe, Int.reduceLT, Int.reduceLE, Nat.reduceEqDiff, Nat.reduceAdd, Nat.reduceMul, Nat.reduceLT, Nat.reduceLeDiff, Nat.reduceSub, reduceCtorEq, reduceIte, Int.reduceToNat, beq_self_eq_true, Bool.and_self, List.take_length, decide_true, Bool.not_true, Bool.not_false]
  refine VWp.adopt 500000 1 9 (x := 4) rfl rfl (by decide) ?_ (closed_of (by simp only [go_sem, Int.reduceEq, Int.reduceNe, Int.reduceLT, Int.reduceLE, Nat.reduceEqDiff, Nat.reduceAdd, Nat.reduceMul, Nat.reduceLT, Nat.reduceLeDiff, Nat.reduceSub, reduceCtorEq, reduceIte, Int.reduceToNat, beq_self_eq_true, Bool.and_self, List.take_length, decide_true, Bool.not_true, Bool.not_false]) (by simp only [go_sem, Int.reduceEq, Int.reduceNe, Int.reduceLT, Int.reduceLE, Nat.reduceEqDiff, Nat.reduceAdd, Nat.reduceMul, Nat.reduceLT, Nat.reduceLeDiff, Nat.reduceSub, reduceCtorEq, reduceIte, Int.reduceToNat, beq_self_eq_true, Bool.and_self, List.take_length, decide_true, Bool.not_true, Bool.not_false]))
  refine VWp.keep [0,4,5] [500000] ?_; simp only [go_sem, Int.reduceEq, Int.reduceNe, Int.reduceLT, Int.reduceLE, Nat.reduceEqDiff, Nat.reduceAdd, Nat.reduceMul, Nat.reduceLT, Nat.reduceLeDiff, Nat.reduceSub, reduceCtorEq, reduceIte, Int.reduceToNat, beq_self_eq_true, Bool.and_self, List.take_length, decide_true, Bool.not_true, Bool.not_false]
  refine vwp_block (vloop (fun z : Nat × List Jb => [(0, stmsV l), (4, .own 500000 z.2.length), (5, .int .i64 (z.1 : Int))])
    (fun z => [(500000, .arr 1 9 (z.2.map fun w => [V.str w]))])
    (fun z => z.1 ≤ l.length ∧ z.2.length ≤ z.1 * 3000000 ∧ outR z.2 (printJ (l.drop z.1)) = R) (fun z => l.length - z.1) (0, []) ⟨Nat.zero_le _, by simp, by show outR [] (printJ (l.drop 0)) = R; rw [List.drop_zero, hR]; cases R <;> rfl⟩ (by simp only [go_sem, Int.reduceEq, Int.reduceNe, Int.reduceLT, Int.reduceLE, Nat.reduceEqDiff, Nat.reduceAdd, Nat.reduceMul, Nat.reduceLT, Nat.reduceLeDiff, Nat.reduceSub, reduceCtorEq, reduceIte, Int.reduceToNat, beq_self_eq_true, Bool.and_self, List.take_length, decide_true, Bool.not_true, Bool.not_false, List.length_map]) ?_)
  rintro ⟨m, out⟩ ⟨m1, m2, m3⟩
  have m1 : m ≤ l.length := m1
  have m2 : out.length ≤ m * 3000000 := m2
  have m3 : outR out (printJ (l.drop m)) = R := m3
  try dsimp only
  refine vwp_seq_k fun Ne hNe => ?_
  refine vwp_seq_k fun Nf hNf => vreg tt_ok hF rfl ?_; simp only [go_sem, Int.reduceEq, Int.reduceNe, Int.reduceLT, Int.reduceLE, Nat.reduceEqDiff, Nat.reduceAdd, Nat.reduceMul, Nat.reduceLT, Nat.reduceLeDiff, Nat.reduceSub, reduceCtorEq, reduceIte, Int.reduceToNat, beq_self_eq_true, Bool.and_self, List.take_length, decide_true, Bool.not_true, Bool.not_false, List.length_map]
  refine hNf _ (VWp.keep [0,4,5,14] [500000] ?_); simp only [go_sem, Int.reduceEq, Int.reduceNe, Int.reduceLT, Int.reduceLE, Nat.reduceEqDiff, Nat.reduceAdd, Nat.reduceMul, Nat.reduceLT, Nat.reduceLeDiff, Nat.reduceSub, reduceCtorEq, reduceIte, Int.reduceToNat, beq_self_eq_true, Bool.and_self, List.take_length, decide_true, Bool.not_true, Bool.not_false]
  refine vif rfl ⟨fun ht => ?_, fun hf => ?_⟩
  · have hlt : m < l.length := by have := of_decide_eq_true ht; omega
    obtain ⟨s, hg⟩ : ∃ s, l[m]? = some s := ⟨_, List.getElem?_eq_getElem hlt⟩
    have hss := hs s (List.mem_of_getElem? hg)
    have hrow : (l.map stmC).getD m [] = [.int .i64 s.line, .str s.name, .str s.op, .sl 3 (s.params.map prmC), .sl 1 (s.data.map fun w => [V.str w])] := by simp [hg, stmC, prmsV, strsV]
    have hpi : (0 : Int) ≤ (m : Int) ∧ (m : Int) < (l.length : Int) := ⟨by omega, by omega⟩
    rw [drop_consS l m hg, printJ_cons] at m3
    have h1 := rows_spec s hss.nm hss.op hss.pl hss.pp
    have h3 := data_spec s
    have h1 : Spec Tryz.prog 15 [.agg [.int .i64 s.line, .str s.name, .str s.op, .sl 3 (s.params.map prmC), .sl 1 (s.data.map fun w => [V.str w])]] (rrV s) := h1
    have h3 : Spec Tryz.prog 16 [.agg [.int .i64 s.line, .str s.name, .str s.op, .sl 3 (s.params.map prmC), .sl 1 (s.data.map fun w => [V.str w])]] (.int .i64 (kindJ s : Int)) := h3
    have hdl := hss.dl
    have hrc : (∃ r, rendJ s = some r ∧ r.length ≤ 1000001) ∨ rendJ s = none := by
      rcases rend_cases s hss.pl with ⟨r, a, _, b⟩ | ⟨a, _⟩
      · exact .inl ⟨r, a, b⟩
      · exact .inr a
    have e0 : decide ((kindJ s : Int) = 0) = (kindJ s == 0) := by
      by_cases h : kindJ s = 0
      · rw [h]; rfl
      · rw [decide_eq_false (by omega)]; simp [h]
    have e1 : decide ((kindJ s : Int) = 1) = (kindJ s == 1) := by
      by_cases h : kindJ s = 1
      · rw [h]; rfl
      · rw [decide_eq_false (by omega)]; simp [h]
    have e2 : decide ((0 : Int) < (kindJ s : Int)) = !(kindJ s == 0) := by
      by_cases h : kindJ s = 0
      · rw [h]; rfl
      · rw [decide_eq_true (by omega)]; simp [h]
    have e3 : decide ((0 : Int) < (s.data.length : Int)) = !s.data.isEmpty := by
      cases s.data with
      | nil => rfl
      | cons a t => rw [decide_eq_true (by simp only [List.length_cons]; omega)]; rfl
    have hfa := fitsJ_any s
    have hms : ∀ x, misJ (kindJ s) x = (kindJ s == 0 || !cardJ x || begJ x [47, 42] || (kindJ s == 1 && begJ x [47, 47])) := fun x => rfl
    generalize kindJ s = kd at h3 e0 e1 e2 hfa hms m3
    refine vwp_skip (hNe _ ?_)
    refine vwp_seq_k fun Ng hNg => ?_
    refine vwp_block ?_
    rcases hrc with ⟨r, hr1, hr3⟩ | hr1
    · have hrr : rrV s = .tup [strsV r, .bool true] := by unfold rrV; rw [hr1]
      rw [hrr] at h1
      rw [hr1] at m3
      have m3 : outR out (if !fitsJ s then none else match printJ (l.drop (m + 1)) with
          | none => none
          | some o => some (r ++ s.data ++ (if kd == 0 then [] else [[47, 42]]) ++ o)) = R := m3
      refine vwp_seq_k fun Nh hNh => vreg tt_ok hF rfl ?_; simp only [go_sem, Int.reduceEq, Int.reduceNe, Int.reduceLT, Int.reduceLE, Nat.reduceEqDiff, Nat.reduceAdd, Nat.reduceMul, Nat.reduceLT, Nat.reduceLeDiff, Nat.reduceSub, reduceCtorEq, reduceIte, Int.reduceToNat, beq_self_eq_true, Bool.and_self, List.take_length, decide_true, Bool.not_true, Bool.not_false, List.length_map, hpi, hrow]
      refine .inl ⟨_, h1, ?_⟩; try simp only [go_sem, Int.reduceEq, Int.reduceNe, Int.reduceLT, Int.reduceLE, Nat.reduceEqDiff, Nat.reduceAdd, Nat.reduceMul, Nat.reduceLT, Nat.reduceLeDiff, Nat.reduceSub, reduceCtorEq, reduceIte, Int.reduceToNat, beq_self_eq_true, Bool.and_self, List.take_length, decide_true, Bool.not_true, Bool.not_false]
      refine hNh _ (VWp.keep [0,4,5,6,7] [500000] ?_); simp only [go_sem, Int.reduceEq, Int.reduceNe, Int.reduceLT, Int.reduceLE, Nat.reduceEqDiff, Nat.reduceAdd, Nat.reduceMul, Nat.reduceLT, Nat.reduceLeDiff, Nat.reduceSub, reduceCtorEq, reduceIte, Int.reduceToNat, beq_self_eq_true, Bool.and_self, List.take_length, decide_true, Bool.not_true, Bool.not_false]
      refine vwp_seq_k fun Ni hNi => vreg tt_ok hF rfl ?_; simp only [go_sem, Int.reduceEq, Int.reduceNe, Int.reduceLT, Int.reduceLE, Nat.reduceEqDiff, Nat.reduceAdd, Nat.reduceMul, Nat.reduceLT, Nat.reduceLeDiff, Nat.reduceSub, reduceCtorEq, reduceIte, Int.reduceToNat, beq_self_eq_true, Bool.and_self, List.take_length, decide_true, Bool.not_true, Bool.not_false, List.length_map, hpi, hrow]
      refine .inl ⟨_, h3, ?_⟩; try simp only [go_sem, Int.reduceEq, Int.reduceNe, Int.reduceLT, Int.reduceLE, Nat.reduceEqDiff, Nat.reduceAdd, Nat.reduceMul, Nat.reduceLT, Nat.reduceLeDiff, Nat.reduceSub, reduceCtorEq, reduceIte, Int.reduceToNat, beq_self_eq_true, Bool.and_self, List.take_length, decide_true, Bool.not_true, Bool.not_false]
      refine hNi _ (VWp.keep [0,4,5,6,7,8] [500000] ?_); simp only [go_sem, Int.reduceEq, Int.reduceNe, Int.reduceLT, Int.reduceLE, Nat.reduceEqDiff, Nat.reduceAdd, Nat.reduceMul, Nat.reduceLT, Nat.reduceLeDiff, Nat.reduceSub, reduceCtorEq, reduceIte, Int.reduceToNat, beq_self_eq_true, Bool.and_self, List.take_length, decide_true, Bool.not_true, Bool.not_false]
      refine vwp_seq_k fun Nj hNj => ?_
      refine vmeet (fun z : Bool => [(0, stmsV l), (4, .own 500000 out.length), (5, .int .i64 (m : Int)), (6, strsV r), (8, .int .i64 (kd : Int)), (44, .bool z)]) (fun _ => [(500000, .arr 1 9 (out.map fun w => [V.str w]))]) (fun z => z = ((kd == 0) && !s.data.isEmpty)) ?_ ?_
      · generalize (kd == 0) = b1 at e0
        cases b1
        all_goals
          refine vreg tt_ok hF rfl ?_; simp only [go_sem, Int.reduceEq, Int.reduceNe, Int.reduceLT, Int.reduceLE, Nat.reduceEqDiff, Nat.reduceAdd, Nat.reduceMul, Nat.reduceLT, Nat.reduceLeDiff, Nat.reduceSub, reduceCtorEq, reduceIte, Int.reduceToNat, beq_self_eq_true, Bool.and_self, List.take_length, decide_true, Bool.not_true, Bool.not_false, List.length_map, hpi, hrow, e0, e3]
          exact ⟨_, rfl, by simp⟩
      intro z hz
      refine vif rfl ⟨fun ht => ?_, fun hf => ?_⟩
      · have hfit : fitsJ s = false := by
          rw [ht] at hz
          have hz := hz.symm
          rw [Bool.and_eq_true] at hz
          rw [hfa]
          cases hd : s.data with
          | nil => rw [hd] at hz; simp at hz
          | cons x t => rw [List.any_cons, hms, hz.1]; rfl
        rw [hfit] at m3
        have hRn : R = none := m3.symm
        subst hRn
        refine vwp_seq_k fun Nl hNl => vreg tt_ok hF rfl ?_; simp only [go_sem, Int.reduceEq, Int.reduceNe, Int.reduceLT, Int.reduceLE, Nat.reduceEqDiff, Nat.reduceAdd, Nat.reduceMul, Nat.reduceLT, Nat.reduceLeDiff, Nat.reduceSub, reduceCtorEq, reduceIte, Int.reduceToNat, beq_self_eq_true, Bool.and_self, List.take_length, decide_true, Bool.not_true, Bool.not_false]
        refine hNl _ (VWp.keep [2,3] [] ?_); simp only [go_sem, Int.reduceEq, Int.reduceNe, Int.reduceLT, Int.reduceLE, Nat.reduceEqDiff, Nat.reduceAdd, Nat.reduceMul, Nat.reduceLT, Nat.reduceLeDiff, Nat.reduceSub, reduceCtorEq, reduceIte, Int.reduceToNat, beq_self_eq_true, Bool.and_self, List.take_length, decide_true, Bool.not_true, Bool.not_false]
        refine vwp_ret ?_
        simp only [go_sem, Int.reduceEq, Int.reduceNe, Int.reduceLT, Int.reduceLE, Nat.reduceEqDiff, Nat.reduceAdd, Nat.reduceMul, Nat.reduceLT, Nat.reduceLeDiff, Nat.reduceSub, reduceCtorEq, reduceIte, Int.reduceToNat, beq_self_eq_true, Bool.and_self, List.take_length, decide_true, Bool.not_true, Bool.not_false]
        exact LeV.tup ⟨LeV.nil 1, LeV.refl _, trivial⟩
      rw [hf] at hz
      have hz := hz.symm
      refine vwp_skip (hNj _ ?_)
      refine vwp_seq_k fun Nm hNm => vreg tt_ok hF rfl ?_; simp only [go_sem, Int.reduceEq, Int.reduceNe, Int.reduceLT, Int.reduceLE, Nat.reduceEqDiff, Nat.reduceAdd, Nat.reduceMul, Nat.reduceLT, Nat.reduceLeDiff, Nat.reduceSub, reduceCtorEq, reduceIte, Int.reduceToNat, beq_self_eq_true, Bool.and_self, List.take_length, decide_true, Bool.not_true, Bool.not_false]
      refine ⟨by first | omega | (simp; omega), ?_⟩
      refine hNm _ (VWp.keep [0,4,5,8] [500000] ?_); simp only [go_sem, Int.reduceEq, Int.reduceNe, Int.reduceLT, Int.reduceLE, Nat.reduceEqDiff, Nat.reduceAdd, Nat.reduceMul, Nat.reduceLT, Nat.reduceLeDiff, Nat.reduceSub, reduceCtorEq, reduceIte, Int.reduceToNat, beq_self_eq_true, Bool.and_self, List.take_length, decide_true, Bool.not_true, Bool.not_false]
      refine vwp_seq_k fun Nn hNn => ?_
      refine vwp_seq_k fun No hNo => vreg tt_ok hF rfl ?_; simp only [go_sem, Int.reduceEq, Int.reduceNe, Int.reduceLT, Int.reduceLE, Nat.reduceEqDiff, Nat.reduceAdd, Nat.reduceMul, Nat.reduceLT, Nat.reduceLeDiff, Nat.reduceSub, reduceCtorEq, reduceIte, Int.reduceToNat, beq_self_eq_true, Bool.and_self, List.take_length, decide_true, Bool.not_true, Bool.not_false]
      refine hNo _ (VWp.keep [0,4,5,8,9] [500000] ?_); simp only [go_sem, Int.reduceEq, Int.reduceNe, Int.reduceLT, Int.reduceLE, Nat.reduceEqDiff, Nat.reduceAdd, Nat.reduceMul, Nat.reduceLT, Nat.reduceLeDiff, Nat.reduceSub, reduceCtorEq, reduceIte, Int.reduceToNat, beq_self_eq_true, Bool.and_self, List.take_length, decide_true, Bool.not_true, Bool.not_false]
      refine vwp_block (vloop (fun q : Nat => [(0, stmsV l), (4, .own 500000 (out ++ r ++ s.data.take q).length), (5, .int .i64 (m : Int)), (8, .int .i64 (kd : Int)), (9, .int .i64 (q : Int))]) (fun q => [(500000, .arr 1 9 ((out ++ r ++ s.data.take q).map fun w => [V.str w]))]) (fun q => q ≤ s.data.length ∧ (s.data.take q).any (misJ kd) = false) (fun q => s.data.length - q) 0 ⟨Nat.zero_le _, by simp⟩ (by simp only [go_sem, Int.reduceEq, Int.reduceNe, Int.reduceLT, Int.reduceLE, Nat.reduceEqDiff, Nat.reduceAdd, Nat.reduceMul, Nat.reduceLT, Nat.reduceLeDiff, Nat.reduceSub, reduceCtorEq, reduceIte, Int.reduceToNat, beq_self_eq_true, Bool.and_self, List.take_length, decide_true, Bool.not_true, Bool.not_false]; try simp) ?_)
      rintro q ⟨q1, q2⟩
      have hql : (out ++ r ++ s.data.take q).length ≤ m * 3000000 + 2500000 := by simp only [List.length_append, List.length_take]; omega
      obtain ⟨O2, hO2⟩ : ∃ O2, out ++ r ++ s.data.take q = O2 := ⟨_, rfl⟩
      rw [hO2] at hql ⊢
      refine vwp_seq_k fun Np hNp => ?_
      refine vwp_seq_k fun Nq hNq => vreg tt_ok hF rfl ?_; simp only [go_sem, Int.reduceEq, Int.reduceNe, Int.reduceLT, Int.reduceLE, Nat.reduceEqDiff, Nat.reduceAdd, Nat.reduceMul, Nat.reduceLT, Nat.reduceLeDiff, Nat.reduceSub, reduceCtorEq, reduceIte, Int.reduceToNat, beq_self_eq_true, Bool.and_self, List.take_length, decide_true, Bool.not_true, Bool.not_false, List.length_map, hpi, hrow]
      refine hNq _ (VWp.keep [0,4,5,8,9,55] [500000] ?_); simp only [go_sem, Int.reduceEq, Int.reduceNe, Int.reduceLT, Int.reduceLE, Nat.reduceEqDiff, Nat.reduceAdd, Nat.reduceMul, Nat.reduceLT, Nat.reduceLeDiff, Nat.reduceSub, reduceCtorEq, reduceIte, Int.reduceToNat, beq_self_eq_true, Bool.and_self, List.take_length, decide_true, Bool.not_true, Bool.not_false]
      refine vif rfl ⟨fun ht => ?_, fun hf => ?_⟩
      · have hqlt : q < s.data.length := by have := of_decide_eq_true ht; omega
        obtain ⟨x, hx⟩ : ∃ x, s.data[q]? = some x := ⟨_, List.getElem?_eq_getElem hqlt⟩
        have hr1 : (s.data.map fun w => [V.str w]).getD q [] = [.str x] := by simp [hx]
        have hp1 : (0 : Int) ≤ (q : Int) ∧ (q : Int) < (s.data.length : Int) := ⟨by omega, by omega⟩
        have hxl := hss.dd x (List.mem_of_getElem? hx)
        have hk0 : (kd == 0) = false := by
          cases hk : (kd == 0)
          · rfl
          · rw [hk] at hz
            have : s.data ≠ [] := fun e => by rw [e] at hqlt; simp at hqlt
            cases hd : s.data with
            | nil => exact absurd hd this
            | cons a t => rw [hd] at hz; cases hz
        have hmx := hms x
        rw [hk0, Bool.false_or] at hmx
        have hstep : (s.data.take (q + 1)).any (misJ kd) = misJ kd x := by rw [any_take_succ _ _ _ _ hx, q2]; rfl
        have hO3 : out ++ r ++ s.data.take (q + 1) = O2 ++ [x] := by rw [← hO2, List.take_add_one, hx]; simp
        have c1 := card_spec x hxl
        have c2 := begins_spec x [47, 42]
        have c3 := begins_spec x [47, 47]
        have hbad : misJ kd x = true → R = none := fun h => by
          have hfit : fitsJ s = false := by rw [hfa, List.any_eq_true.2 ⟨x, List.mem_of_getElem? hx, h⟩]; rfl
          rw [hfit] at m3
          exact m3.symm
        refine vwp_skip (hNp _ ?_)
        refine vwp_seq_k fun Nr hNr => ?_
        refine vwp_block ?_
        refine vwp_seq_k fun Ns hNs => vreg tt_ok hF rfl ?_; simp only [go_sem, Int.reduceEq, Int.reduceNe, Int.reduceLT, Int.reduceLE, Nat.reduceEqDiff, Nat.reduceAdd, Nat.reduceMul, Nat.reduceLT, Nat.reduceLeDiff, Nat.reduceSub, reduceCtorEq, reduceIte, Int.reduceToNat, beq_self_eq_true, Bool.and_self, List.take_length, decide_true, Bool.not_true, Bool.not_false, List.length_map, hpi, hrow, hp1, hr1]
        refine hNs _ (VWp.keep [0,4,5,8,9,10] [500000] ?_); simp only [go_sem, Int.reduceEq, Int.reduceNe, Int.reduceLT, Int.reduceLE, Nat.reduceEqDiff, Nat.reduceAdd, Nat.reduceMul, Nat.reduceLT, Nat.reduceLeDiff, Nat.reduceSub, reduceCtorEq, reduceIte, Int.reduceToNat, beq_self_eq_true, Bool.and_self, List.take_length, decide_true, Bool.not_true, Bool.not_false]
        refine vwp_seq_k fun Nt hNt => ?_
        refine vmeet (fun z : Bool => [(0, stmsV l), (4, .own 500000 O2.length), (5, .int .i64 (m : Int)), (8, .int .i64 (kd : Int)), (9, .int .i64 (q : Int)), (10, .str x), (80, .bool z)]) (fun _ => [(500000, .arr 1 9 (O2.map fun w => [V.str w]))]) (fun z => z = misJ kd x) ?_ ?_
        · rw [hmx]
          generalize cardJ x = b1 at c1 ⊢
          generalize begJ x [47, 42] = b2 at c2 ⊢
          generalize begJ x [47, 47] = b3 at c3 ⊢
          generalize (kd == 1) = b4 at e1 ⊢
          cases b1
          · refine vreg tt_ok hF rfl ?_; simp only [go_sem, Int.reduceEq, Int.reduceNe, Int.reduceLT, Int.reduceLE, Nat.reduceEqDiff, Nat.reduceAdd, Nat.reduceMul, Nat.reduceLT, Nat.reduceLeDiff, Nat.reduceSub, reduceCtorEq, reduceIte, Int.reduceToNat, beq_self_eq_true, Bool.and_self, List.take_length, decide_true, Bool.not_true, Bool.not_false]
            refine .inl ⟨_, c1, ?_⟩; try simp only [go_sem, Int.reduceEq, Int.reduceNe, Int.reduceLT, Int.reduceLE, Nat.reduceEqDiff, Nat.reduceAdd, Nat.reduceMul, Nat.reduceLT, Nat.reduceLeDiff, Nat.reduceSub, reduceCtorEq, reduceIte, Int.reduceToNat, beq_self_eq_true, Bool.and_self, List.take_length, decide_true, Bool.not_true, Bool.not_false]
            exact ⟨_, rfl, by simp⟩
          · cases b2
            · cases b4
              · refine vreg tt_ok hF rfl ?_; simp only [go_sem, Int.reduceEq, Int.reduceNe, Int.reduceLT, Int.reduceLE, Nat.reduceEqDiff, Nat.reduceAdd, Nat.reduceMul, Nat.reduceLT, Nat.reduceLeDiff, Nat.reduceSub, reduceCtorEq, reduceIte, Int.reduceToNat, beq_self_eq_true, Bool.and_self, List.take_length, decide_true, Bool.not_true, Bool.not_false]
                refine .inl ⟨_, c1, ?_⟩; try simp only [go_sem, Int.reduceEq, Int.reduceNe, Int.reduceLT, Int.reduceLE, Nat.reduceEqDiff, Nat.reduceAdd, Nat.reduceMul, Nat.reduceLT, Nat.reduceLeDiff, Nat.reduceSub, reduceCtorEq, reduceIte, Int.reduceToNat, beq_self_eq_true, Bool.and_self, List.take_length, decide_true, Bool.not_true, Bool.not_false]
                refine .inl ⟨_, c2, ?_⟩; try simp only [go_sem, Int.reduceEq, Int.reduceNe, Int.reduceLT, Int.reduceLE, Nat.reduceEqDiff, Nat.reduceAdd, Nat.reduceMul, Nat.reduceLT, Nat.reduceLeDiff, Nat.reduceSub, reduceCtorEq, reduceIte, Int.reduceToNat, beq_self_eq_true, Bool.and_self, List.take_length, decide_true, Bool.not_true, Bool.not_false, e1]
                exact ⟨_, rfl, by simp⟩
              · refine vreg tt_ok hF rfl ?_; simp only [go_sem, Int.reduceEq, Int.reduceNe, Int.reduceLT, Int.reduceLE, Nat.reduceEqDiff, Nat.reduceAdd, Nat.reduceMul, Nat.reduceLT, Nat.reduceLeDiff, Nat.reduceSub, reduceCtorEq, reduceIte, Int.reduceToNat, beq_self_eq_true, Bool.and_self, List.take_length, decide_true, Bool.not_true, Bool.not_false]
                refine .inl ⟨_, c1, ?_⟩; try simp only [go_sem, Int.reduceEq, Int.reduceNe, Int.reduceLT, Int.reduceLE, Nat.reduceEqDiff, Nat.reduceAdd, Nat.reduceMul, Nat.reduceLT, Nat.reduceLeDiff, Nat.reduceSub, reduceCtorEq, reduceIte, Int.reduceToNat, beq_self_eq_true, Bool.and_self, List.take_length, decide_true, Bool.not_true, Bool.not_false]
                refine .inl ⟨_, c2, ?_⟩; try simp only [go_sem, Int.reduceEq, Int.reduceNe, Int.reduceLT, Int.reduceLE, Nat.reduceEqDiff, Nat.reduceAdd, Nat.reduceMul, Nat.reduceLT, Nat.reduceLeDiff, Nat.reduceSub, reduceCtorEq, reduceIte, Int.reduceToNat, beq_self_eq_true, Bool.and_self, List.take_length, decide_true, Bool.not_true, Bool.not_false, e1]
                refine .inl ⟨_, c3, ?_⟩; try simp only [go_sem, Int.reduceEq, Int.reduceNe, Int.reduceLT, Int.reduceLE, Nat.reduceEqDiff, Nat.reduceAdd, Nat.reduceMul, Nat.reduceLT, Nat.reduceLeDiff, Nat.reduceSub, reduceCtorEq, reduceIte, Int.reduceToNat, beq_self_eq_true, Bool.and_self, List.take_length, decide_true, Bool.not_true, Bool.not_false]
                exact ⟨_, rfl, by simp⟩
            · refine vreg tt_ok hF rfl ?_; simp only [go_sem, Int.reduceEq, Int.reduceNe, Int.reduceLT, Int.reduceLE, Nat.reduceEqDiff, Nat.reduceAdd, Nat.reduceMul, Nat.reduceLT, Nat.reduceLeDiff, Nat.reduceSub, reduceCtorEq, reduceIte, Int.reduceToNat, beq_self_eq_true, Bool.and_self, List.take_length, decide_true, Bool.not_true, Bool.not_false]
              refine .inl ⟨_, c1, ?_⟩; try simp only [go_sem, Int.reduceEq, Int.reduceNe, Int.reduceLT, Int.reduceLE, Nat.reduceEqDiff, Nat.reduceAdd, Nat.reduceMul, Nat.reduceLT, Nat.reduceLeDiff, Nat.reduceSub, reduceCtorEq, reduceIte, Int.reduceToNat, beq_self_eq_true, Bool.and_self, List.take_length, decide_true, Bool.not_true, Bool.not_false]
              refine .inl ⟨_, c2, ?_⟩; try simp only [go_sem, Int.reduceEq, Int.reduceNe, Int.reduceLT, Int.reduceLE, Nat.reduceEqDiff, Nat.reduceAdd, Nat.reduceMul, Nat.reduceLT, Nat.reduceLeDiff, Nat.reduceSub, reduceCtorEq, reduceIte, Int.reduceToNat, beq_self_eq_true, Bool.and_self, List.take_length, decide_true, Bool.not_true, Bool.not_false, e1]
              exact ⟨_, rfl, by simp⟩
        intro y hy
        refine vif rfl ⟨fun ht => ?_, fun hf => ?_⟩
        · have hRn := hbad (by rw [← hy, ht])
          subst hRn
          refine vwp_seq_k fun Nv hNv => vreg tt_ok hF rfl ?_; simp only [go_sem, Int.reduceEq, Int.reduceNe, Int.reduceLT, Int.reduceLE, Nat.reduceEqDiff, Nat.reduceAdd, Nat.reduceMul, Nat.reduceLT, Nat.reduceLeDiff, Nat.reduceSub, reduceCtorEq, reduceIte, Int.reduceToNat, beq_self_eq_true, Bool.and_self, List.take_length, decide_true, Bool.not_true, Bool.not_false]
          refine hNv _ (VWp.keep [2,3] [] ?_); simp only [go_sem, Int.reduceEq, Int.reduceNe, Int.reduceLT, Int.reduceLE, Nat.reduceEqDiff, Nat.reduceAdd, Nat.reduceMul, Nat.reduceLT, Nat.reduceLeDiff, Nat.reduceSub, reduceCtorEq, reduceIte, Int.reduceToNat, beq_self_eq_true, Bool.and_self, List.take_length, decide_true, Bool.not_true, Bool.not_false]
          refine vwp_ret ?_
          simp only [go_sem, Int.reduceEq, Int.reduceNe, Int.reduceLT, Int.reduceLE, Nat.reduceEqDiff, Nat.reduceAdd, Nat.reduceMul, Nat.reduceLT, Nat.reduceLeDiff, Nat.reduceSub, reduceCtorEq, reduceIte, Int.reduceToNat, beq_self_eq_true, Bool.and_self, List.take_length, decide_true, Bool.not_true, Bool.not_false]
          exact LeV.tup ⟨LeV.nil 1, LeV.refl _, trivial⟩
        · refine vwp_skip (hNt _ ?_)
          refine vreg tt_ok hF rfl ?_; simp only [go_sem, Int.reduceEq, Int.reduceNe, Int.reduceLT, Int.reduceLE, Nat.reduceEqDiff, Nat.reduceAdd, Nat.reduceMul, Nat.reduceLT, Nat.reduceLeDiff, Nat.reduceSub, reduceCtorEq, reduceIte, Int.reduceToNat, beq_self_eq_true, Bool.and_self, List.take_length, decide_true, Bool.not_true, Bool.not_false]
          refine ⟨by first | omega | (simp; omega), ?_⟩
          refine hNr _ (VWp.keep [0,4,5,8,9] [500000] ?_); simp only [go_sem, Int.reduceEq, Int.reduceNe, Int.reduceLT, Int.reduceLE, Nat.reduceEqDiff, Nat.reduceAdd, Nat.reduceMul, Nat.reduceLT, Nat.reduceLeDiff, Nat.reduceSub, reduceCtorEq, reduceIte, Int.reduceToNat, beq_self_eq_true, Bool.and_self, List.take_length, decide_true, Bool.not_true, Bool.not_false]
          refine vreg tt_ok hF rfl ?_; simp only [go_sem, Int.reduceEq, Int.reduceNe, Int.reduceLT, Int.reduceLE, Nat.reduceEqDiff, Nat.reduceAdd, Nat.reduceMul, Nat.reduceLT, Nat.reduceLeDiff, Nat.reduceSub, reduceCtorEq, reduceIte, Int.reduceToNat, beq_self_eq_true, Bool.and_self, List.take_length, decide_true, Bool.not_true, Bool.not_false]
          rw [wrap_i64 (by omega) (by omega)]
          exact ⟨q + 1, ⟨by omega, by rw [hstep, ← hy, hf]⟩, by omega, by rw [hO3]; simp⟩
      · have hq : q = s.data.length := by have := of_decide_eq_false hf; omega
        rw [hq, List.take_length] at q2 hO2
        have hfit : fitsJ s = true := by rw [hfa, q2]; rfl
        rw [hfit] at m3
        have m3 : outR out (match printJ (l.drop (m + 1)) with
          | none => none
          | some o => some (r ++ s.data ++ (if kd == 0 then [] else [[47, 42]]) ++ o)) = R := m3
        refine vwp_exit ?_
        simp only [go_sem, Int.reduceEq, Int.reduceNe, Int.reduceLT, Int.reduceLE, Nat.reduceEqDiff, Nat.reduceAdd, Nat.reduceMul, Nat.reduceLT, Nat.reduceLeDiff, Nat.reduceSub, reduceCtorEq, reduceIte, Int.reduceToNat, beq_self_eq_true, Bool.and_self, List.take_length, decide_true, Bool.not_true, Bool.not_false]
        refine hNn _ (VWp.keep [0,4,5,8] [500000] ?_); simp only [go_sem, Int.reduceEq, Int.reduceNe, Int.reduceLT, Int.reduceLE, Nat.reduceEqDiff, Nat.reduceAdd, Nat.reduceMul, Nat.reduceLT, Nat.reduceLeDiff, Nat.reduceSub, reduceCtorEq, reduceIte, Int.reduceToNat, beq_self_eq_true, Bool.and_self, List.take_length, decide_true, Bool.not_true, Bool.not_false]
        refine vwp_seq_k fun Nw hNw => vreg tt_ok hF rfl ?_; simp only [go_sem, Int.reduceEq, Int.reduceNe, Int.reduceLT, Int.reduceLE, Nat.reduceEqDiff, Nat.reduceAdd, Nat.reduceMul, Nat.reduceLT, Nat.reduceLeDiff, Nat.reduceSub, reduceCtorEq, reduceIte, Int.reduceToNat, beq_self_eq_true, Bool.and_self, List.take_length, decide_true, Bool.not_true, Bool.not_false, e2]
        refine hNw _ (VWp.keep [0,4,5,86] [500000] ?_); simp only [go_sem, Int.reduceEq, Int.reduceNe, Int.reduceLT, Int.reduceLE, Nat.reduceEqDiff, Nat.reduceAdd, Nat.reduceMul, Nat.reduceLT, Nat.reduceLeDiff, Nat.reduceSub, reduceCtorEq, reduceIte, Int.reduceToNat, beq_self_eq_true, Bool.and_self, List.take_length, decide_true, Bool.not_true, Bool.not_false]
        have hlen2 : O2.length ≤ m * 3000000 + 2500000 := hql
        cases hk0 : (kd == 0)
        · rw [hk0] at m3
          refine vif rfl ⟨fun ht => ?_, fun hf => (by cases hf)⟩
          refine vreg tt_ok hF rfl ?_; simp only [go_sem, Int.reduceEq, Int.reduceNe, Int.reduceLT, Int.reduceLE, Nat.reduceEqDiff, Nat.reduceAdd, Nat.reduceMul, Nat.reduceLT, Nat.reduceLeDiff, Nat.reduceSub, reduceCtorEq, reduceIte, Int.reduceToNat, beq_self_eq_true, Bool.and_self, List.take_length, decide_true, Bool.not_true, Bool.not_false]
          refine ⟨by first | omega | (simp; omega), ?_⟩
          refine hNg _ (VWp.keep [0,4,5] [500000] ?_); simp only [go_sem, Int.reduceEq, Int.reduceNe, Int.reduceLT, Int.reduceLE, Nat.reduceEqDiff, Nat.reduceAdd, Nat.reduceMul, Nat.reduceLT, Nat.reduceLeDiff, Nat.reduceSub, reduceCtorEq, reduceIte, Int.reduceToNat, beq_self_eq_true, Bool.and_self, List.take_length, decide_true, Bool.not_true, Bool.not_false]
          refine vreg tt_ok hF rfl ?_; simp only [go_sem, Int.reduceEq, Int.reduceNe, Int.reduceLT, Int.reduceLE, Nat.reduceEqDiff, Nat.reduceAdd, Nat.reduceMul, Nat.reduceLT, Nat.reduceLeDiff, Nat.reduceSub, reduceCtorEq, reduceIte, Int.reduceToNat, beq_self_eq_true, Bool.and_self, List.take_length, decide_true, Bool.not_true, Bool.not_false]
          rw [wrap_i64 (by omega) (by omega)]
          refine ⟨(m + 1, O2 ++ [[47, 42]]), ⟨by simp only; omega, by simp only [List.length_append, List.length_singleton]; omega, ?_⟩, by simp only; omega, by simp [stmsV]⟩
          show outR (O2 ++ [[47, 42]]) (printJ (l.drop (m + 1))) = R
          rw [← m3, ← hO2]
          cases printJ (l.drop (m + 1)) <;> simp [outR]
        · rw [hk0] at m3
          refine vif rfl ⟨fun ht => (by cases ht), fun hf => ?_⟩
          refine vwp_skip (hNg _ ?_)
          refine vreg tt_ok hF rfl ?_; simp only [go_sem, Int.reduceEq, Int.reduceNe, Int.reduceLT, Int.reduceLE, Nat.reduceEqDiff, Nat.reduceAdd, Nat.reduceMul, Nat.reduceLT, Nat.reduceLeDiff, Nat.reduceSub, reduceCtorEq, reduceIte, Int.reduceToNat, beq_self_eq_true, Bool.and_self, List.take_length, decide_true, Bool.not_true, Bool.not_false]
          rw [wrap_i64 (by omega) (by omega)]
          refine ⟨(m + 1, O2), ⟨by simp only; omega, by simp only; omega, ?_⟩, by simp only; omega, by simp [stmsV]⟩
          show outR O2 (printJ (l.drop (m + 1))) = R
          rw [← m3, ← hO2]
          cases printJ (l.drop (m + 1)) <;> simp [outR]
    · have hrr : rrV s = .tup [strsV [], .bool false] := by unfold rrV; rw [hr1]
      rw [hrr] at h1
      rw [hr1] at m3
      have hRn : R = none := m3.symm
      subst hRn
      refine vwp_seq_k fun Nh hNh => vreg tt_ok hF rfl ?_; simp only [go_sem, Int.reduceEq, Int.reduceNe, Int.reduceLT, Int.reduceLE, Nat.reduceEqDiff, Nat.reduceAdd, Nat.reduceMul, Nat.reduceLT, Nat.reduceLeDiff, Nat.reduceSub, reduceCtorEq, reduceIte, Int.reduceToNat, beq_self_eq_true, Bool.and_self, List.take_length, decide_true, Bool.not_true, Bool.not_false, List.length_map, hpi, hrow]
      refine .inl ⟨_, h1, ?_⟩; try simp only [go_sem, Int.reduceEq, Int.reduceNe, Int.reduceLT, Int.reduceLE, Nat.reduceEqDiff, Nat.reduceAdd, Nat.reduceMul, Nat.reduceLT, Nat.reduceLeDiff, Nat.reduceSub, reduceCtorEq, reduceIte, Int.reduceToNat, beq_self_eq_true, Bool.and_self, List.take_length, decide_true, Bool.not_true, Bool.not_false]
      refine hNh _ (VWp.keep [0,4,5,6,7] [500000] ?_); simp only [go_sem, Int.reduceEq, Int.reduceNe, Int.reduceLT, Int.reduceLE, Nat.reduceEqDiff, Nat.reduceAdd, Nat.reduceMul, Nat.reduceLT, Nat.reduceLeDiff, Nat.reduceSub, reduceCtorEq, reduceIte, Int.reduceToNat, beq_self_eq_true, Bool.and_self, List.take_length, decide_true, Bool.not_true, Bool.not_false]
      refine vwp_seq_k fun Ni hNi => vreg tt_ok hF rfl ?_; simp only [go_sem, Int.reduceEq, Int.reduceNe, Int.reduceLT, Int.reduceLE, Nat.reduceEqDiff, Nat.reduceAdd, Nat.reduceMul, Nat.reduceLT, Nat.reduceLeDiff, Nat.reduceSub, reduceCtorEq, reduceIte, Int.reduceToNat, beq_self_eq_true, Bool.and_self, List.take_length, decide_true, Bool.not_true, Bool.not_false, List.length_map, hpi, hrow]
      refine .inl ⟨_, h3, ?_⟩; try simp only [go_sem, Int.reduceEq, Int.reduceNe, Int.reduceLT, Int.reduceLE, Nat.reduceEqDiff, Nat.reduceAdd, Nat.reduceMul, Nat.reduceLT, Nat.reduceLeDiff, Nat.reduceSub, reduceCtorEq, reduceIte, Int.reduceToNat, beq_self_eq_true, Bool.and_self, List.take_length, decide_true, Bool.not_true, Bool.not_false]
      refine hNi _ (VWp.keep [0,4,5,6,7,8] [500000] ?_); simp only [go_sem, Int.reduceEq, Int.reduceNe, Int.reduceLT, Int.reduceLE, Nat.reduceEqDiff, Nat.reduceAdd, Nat.reduceMul, Nat.reduceLT, Nat.reduceLeDiff, Nat.reduceSub, reduceCtorEq, reduceIte, Int.reduceToNat, beq_self_eq_true, Bool.and_self, List.take_length, decide_true, Bool.not_true, Bool.not_false]
      refine vwp_seq_k fun Nj hNj => ?_
      refine vwp_seq_k fun Nk hNk => vreg tt_ok hF rfl ?_; simp only [go_sem, Int.reduceEq, Int.reduceNe, Int.reduceLT, Int.reduceLE, Nat.reduceEqDiff, Nat.reduceAdd, Nat.reduceMul, Nat.reduceLT, Nat.reduceLeDiff, Nat.reduceSub, reduceCtorEq, reduceIte, Int.reduceToNat, beq_self_eq_true, Bool.and_self, List.take_length, decide_true, Bool.not_true, Bool.not_false]
      refine hNk _ (VWp.keep [0,4,5,6,8,44] [500000] ?_); simp only [go_sem, Int.reduceEq, Int.reduceNe, Int.reduceLT, Int.reduceLE, Nat.reduceEqDiff, Nat.reduceAdd, Nat.reduceMul, Nat.reduceLT, Nat.reduceLeDiff, Nat.reduceSub, reduceCtorEq, reduceIte, Int.reduceToNat, beq_self_eq_true, Bool.and_self, List.take_length, decide_true, Bool.not_true, Bool.not_false]
      refine vif rfl ⟨fun ht => ?_, fun hf => (by cases hf)⟩
      refine vwp_seq_k fun Nl hNl => vreg tt_ok hF rfl ?_; simp only [go_sem, Int.reduceEq, Int.reduceNe, Int.reduceLT, Int.reduceLE, Nat.reduceEqDiff, Nat.reduceAdd, Nat.reduceMul, Nat.reduceLT, Nat.reduceLeDiff, Nat.reduceSub, reduceCtorEq, reduceIte, Int.reduceToNat, beq_self_eq_true, Bool.and_self, List.take_length, decide_true, Bool.not_true, Bool.not_false]
      refine hNl _ (VWp.keep [2,3] [] ?_); simp only [go_sem, Int.reduceEq, Int.reduceNe, Int.reduceLT, Int.reduceLE, Nat.reduceEqDiff, Nat.reduceAdd, Nat.reduceMul, Nat.reduceLT, Nat.reduceLeDiff, Nat.reduceSub, reduceCtorEq, reduceIte, Int.reduceToNat, beq_self_eq_true, Bool.and_self, List.take_length, decide_true, Bool.not_true, Bool.not_false]
      refine vwp_ret ?_
      simp only [go_sem, Int.reduceEq, Int.reduceNe, Int.reduceLT, Int.reduceLE, Nat.reduceEqDiff, Nat.reduceAdd, Nat.reduceMul, Nat.reduceLT, Nat.reduceLeDiff, Nat.reduceSub, reduceCtorEq, reduceIte, Int.reduceToNat, beq_self_eq_true, Bool.and_self, List.take_length, decide_true, Bool.not_true, Bool.not_false]
      exact LeV.tup ⟨LeV.nil 1, LeV.refl _, trivial⟩
  · have hm : m = l.length := by have := of_decide_eq_false hf; omega
    subst hm
    rw [List.drop_length] at m3
    have m3 : some (out ++ []) = R := m3
    rw [List.append_nil] at m3
    subst m3
    refine vwp_exit ?_
    simp only [go_sem, Int.reduceEq, Int.reduceNe, Int.reduceLT, Int.reduceLE, Nat.reduceEqDiff, Nat.reduceAdd, Nat.reduceMul, Nat.reduceLT, Nat.reduceLeDiff, Nat.reduceSub, reduceCtorEq, reduceIte, Int.reduceToNat, beq_self_eq_true, Bool.and_self, List.take_length, decide_true, Bool.not_true, Bool.not_false]
    refine hNc _ (VWp.keepR [4] [500000] tt_ok hF rfl fun Nx hNx => ?_); simp only [go_sem, Int.reduceEq, Int.reduceNe, Int.reduceLT, Int.reduceLE, Nat.reduceEqDiff, Nat.reduceAdd, Nat.reduceMul, Nat.reduceLT, Nat.reduceLeDiff, Nat.reduceSub, reduceCtorEq, reduceIte, Int.reduceToNat, beq_self_eq_true, Bool.and_self, List.take_length, decide_true, Bool.not_true, Bool.not_false]
    refine hNx _ (VWp.keep [2,3] [500000] ?_); simp only [go_sem, Int.reduceEq, Int.reduceNe, Int.reduceLT, Int.reduceLE, Nat.reduceEqDiff, Nat.reduceAdd, Nat.reduceMul, Nat.reduceLT, Nat.reduceLeDiff, Nat.reduceSub, reduceCtorEq, reduceIte, Int.reduceToNat, beq_self_eq_true, Bool.and_self, List.take_length, decide_true, Bool.not_true, Bool.not_false]
    refine vwp_ret ?_
    simp only [go_sem, Int.reduceEq, Int.reduceNe, Int.reduceLT, Int.reduceLE, Nat.reduceEqDiff, Nat.reduceAdd, Nat.reduceMul, Nat.reduceLT, Nat.reduceLeDiff, Nat.reduceSub, reduceCtorEq, reduceIte, Int.reduceToNat, beq_self_eq_true, Bool.and_self, List.take_length, decide_true, Bool.not_true, Bool.not_false]
    exact LeV.refl _
set_option maxHeartbeats 16000000 in
set_option maxRecDepth 4000 in
theorem JclPrints_spec (l : List StmJ) : Spec Tryz.prog 3 [stmsV l] (.bool true) := by
  have hw := works_spec
  have hb := BigStmts_spec l
  have hbn := bigL_no (l := l)
  generalize bigL l = b at hb hbn
  refine spec_of tt_ok Tryz.func3 rfl (by decide) Tryz.ntmps3 (congrArg Array.toList Tryz.results3) (by simp) (by decide) rfl rfl (fun F hF => ?_)
  refine vwp_seq_k fun Na hNa => vreg tt_ok hF rfl ?_; simp only [go_sem, Int.reduceEq, Int.reduceNe, Int.reduceLT, Int.reduceLE, Nat.reduceEqDiff, Nat.reduceAdd, Nat.reduceMul, Nat.reduceLT, Nat.reduceLeDiff, Nat.reduceSub, reduceCtorEq, reduceIte, Int.reduceToNat, beq_self_eq_true, Bool.and_self, List.take_length, decide_true, Bool.not_true, Bool.not_false]
  refine hNa _ (VWp.keep [0] [] ?_); simp only [go_sem, Int.reduceEq, Int.reduceNe, Int.reduceLT, Int.reduceLE, Nat.reduceEqDiff, Nat.reduceAdd, Nat.reduceMul, Nat.reduceLT, Nat.reduceLeDiff, Nat.reduceSub, reduceCtorEq, reduceIte, Int.reduceToNat, beq_self_eq_true, Bool.and_self, List.take_length, decide_true, Bool.not_true, Bool.not_false]
  refine vwp_seq_k fun Nb hNb => ?_
  refine vwp_seq_k fun Nc hNc => vreg tt_ok hF rfl ?_; simp only [go_sem, Int.reduceEq, Int.reduceNe, Int.reduceLT, Int.reduceLE, Nat.reduceEqDiff, Nat.reduceAdd, Nat.reduceMul, Nat.reduceLT, Nat.reduceLeDiff, Nat.reduceSub, reduceCtorEq, reduceIte, Int.reduceToNat, beq_self_eq_true, Bool.and_self, List.take_length, decide_true, Bool.not_true, Bool.not_false]
  refine .inl ⟨_, hb, ?_⟩; try simp only [go_sem, Int.reduceEq, Int.reduceNe, Int.reduceLT, Int.reduceLE, Nat.reduceEqDiff, Nat.reduceAdd, Nat.reduceMul, Nat.reduceLT, Nat.reduceLeDiff, Nat.reduceSub, reduceCtorEq, reduceIte, Int.reduceToNat, beq_self_eq_true, Bool.and_self, List.take_length, decide_true, Bool.not_true, Bool.not_false]
  refine hNc _ (VWp.keep [0,9] [] ?_); simp only [go_sem, Int.reduceEq, Int.reduceNe, Int.reduceLT, Int.reduceLE, Nat.reduceEqDiff, Nat.reduceAdd, Nat.reduceMul, Nat.reduceLT, Nat.reduceLeDiff, Nat.reduceSub, reduceCtorEq, reduceIte, Int.reduceToNat, beq_self_eq_true, Bool.and_self, List.take_length, decide_true, Bool.not_true, Bool.not_false]
  refine vif rfl ⟨fun ht => ?_, fun hf => ?_⟩
  · refine vwp_seq_k fun Nd hNd => vreg tt_ok hF rfl ?_; simp only [go_sem, Int.reduceEq, Int.reduceNe, Int.reduceLT, Int.reduceLE, Nat.reduceEqDiff, Nat.reduceAdd, Nat.reduceMul, Nat.reduceLT, Nat.reduceLeDiff, Nat.reduceSub, reduceCtorEq, reduceIte, Int.reduceToNat, beq_self_eq_true, Bool.and_self, List.take_length, decide_true, Bool.not_true, Bool.not_false]
    refine hNd _ (VWp.keep [2] [] ?_); simp only [go_sem, Int.reduceEq, Int.reduceNe, Int.reduceLT, Int.reduceLE, Nat.reduceEqDiff, Nat.reduceAdd, Nat.reduceMul, Nat.reduceLT, Nat.reduceLeDiff, Nat.reduceSub, reduceCtorEq, reduceIte, Int.reduceToNat, beq_self_eq_true, Bool.and_self, List.take_length, decide_true, Bool.not_true, Bool.not_false]
    refine vwp_ret ?_
    simp only [go_sem, Int.reduceEq, Int.reduceNe, Int.reduceLT, Int.reduceLE, Nat.reduceEqDiff, Nat.reduceAdd, Nat.reduceMul, Nat.reduceLT, Nat.reduceLeDiff, Nat.reduceSub, reduceCtorEq, reduceIte, Int.reduceToNat, beq_self_eq_true, Bool.and_self, List.take_length, decide_true, Bool.not_true, Bool.not_false]
    exact LeV.refl _
  obtain ⟨hl, hs⟩ := hbn hf
  have h0 := Copy_spec l (by omega) (fun s hs' => (hs s hs').sm)
  have h1 := Print_spec l (by omega) (fun s hs' => (hs s hs').sm)
  have h2 := rPrint_spec l (by omega) (fun s hs' => (hs s hs').sm)
  have h4 := Same_spec true l l rfl (by omega) (fun i x y hx hy => by rw [hx] at hy; injection hy with hy; subst hy; exact ⟨fun _ => rfl, rfl, rfl, rfl, rfl⟩) (fun s hs' => by
    have := hs s hs'
    exact ⟨by have := this.pl; omega, by have := this.dl; omega, fun p hp => by have := (this.pp p hp).2.2.1; omega⟩)
  obtain ⟨L, e, he, hLl⟩ : ∃ (L : List Jb) (e : Int), prtV (printJ l) = .tup [strsV L, .int .i64 e] ∧ L.length ≤ 1000000 := by
    cases ho : printJ l with
    | none => exact ⟨[], 340, rfl, by simp⟩
    | some L => exact ⟨L, 0, rfl, by have := (print_size l hs ho).1; omega⟩
  rw [he] at h1 h2
  have h3 := SameTexts_spec L (by omega)
  refine vwp_skip (hNb _ ?_)
  refine vwp_seq_k fun Ne hNe => vreg tt_ok hF rfl ?_; simp only [go_sem, Int.reduceEq, Int.reduceNe, Int.reduceLT, Int.reduceLE, Nat.reduceEqDiff, Nat.reduceAdd, Nat.reduceMul, Nat.reduceLT, Nat.reduceLeDiff, Nat.reduceSub, reduceCtorEq, reduceIte, Int.reduceToNat, beq_self_eq_true, Bool.and_self, List.take_length, decide_true, Bool.not_true, Bool.not_false]
  refine .inl ⟨_, h0, ?_⟩; try simp only [go_sem, Int.reduceEq, Int.reduceNe, Int.reduceLT, Int.reduceLE, Nat.reduceEqDiff, Nat.reduceAdd, Nat.reduceMul, Nat.reduceLT, Nat.reduceLeDiff, Nat.reduceSub, reduceCtorEq, reduceIte, Int.reduceToNat, beq_self_eq_true, Bool.and_self, List.take_length, decide_true, Bool.not_true, Bool.not_false]
  refine hNe _ (VWp.keepR [0,3] [] tt_ok hF rfl fun Nf hNf => ?_); simp only [go_sem, Int.reduceEq, Int.reduceNe, Int.reduceLT, Int.reduceLE, Nat.reduceEqDiff, Nat.reduceAdd, Nat.reduceMul, Nat.reduceLT, Nat.reduceLeDiff, Nat.reduceSub, reduceCtorEq, reduceIte, Int.reduceToNat, beq_self_eq_true, Bool.and_self, List.take_length, decide_true, Bool.not_true, Bool.not_false]
  refine .inl ⟨_, h1, ?_⟩; try simp only [go_sem, Int.reduceEq, Int.reduceNe, Int.reduceLT, Int.reduceLE, Nat.reduceEqDiff, Nat.reduceAdd, Nat.reduceMul, Nat.reduceLT, Nat.reduceLeDiff, Nat.reduceSub, reduceCtorEq, reduceIte, Int.reduceToNat, beq_self_eq_true, Bool.and_self, List.take_length, decide_true, Bool.not_true, Bool.not_false]
  refine hNf _ (VWp.keepR [0,3,4,5] [] tt_ok hF rfl fun Ng hNg => ?_); simp only [go_sem, Int.reduceEq, Int.reduceNe, Int.reduceLT, Int.reduceLE, Nat.reduceEqDiff, Nat.reduceAdd, Nat.reduceMul, Nat.reduceLT, Nat.reduceLeDiff, Nat.reduceSub, reduceCtorEq, reduceIte, Int.reduceToNat, beq_self_eq_true, Bool.and_self, List.take_length, decide_true, Bool.not_true, Bool.not_false]
  refine .inl ⟨_, h2, ?_⟩; try simp only [go_sem, Int.reduceEq, Int.reduceNe, Int.reduceLT, Int.reduceLE, Nat.reduceEqDiff, Nat.reduceAdd, Nat.reduceMul, Nat.reduceLT, Nat.reduceLeDiff, Nat.reduceSub, reduceCtorEq, reduceIte, Int.reduceToNat, beq_self_eq_true, Bool.and_self, List.take_length, decide_true, Bool.not_true, Bool.not_false]
  refine hNg _ (VWp.keepR [0,3,4,5,6,7] [] tt_ok hF rfl fun Nh hNh => ?_); simp only [go_sem, Int.reduceEq, Int.reduceNe, Int.reduceLT, Int.reduceLE, Nat.reduceEqDiff, Nat.reduceAdd, Nat.reduceMul, Nat.reduceLT, Nat.reduceLeDiff, Nat.reduceSub, reduceCtorEq, reduceIte, Int.reduceToNat, beq_self_eq_true, Bool.and_self, List.take_length, decide_true, Bool.not_true, Bool.not_false]
  refine .inl ⟨_, h3, ?_⟩; try simp only [go_sem, Int.reduceEq, Int.reduceNe, Int.reduceLT, Int.reduceLE, Nat.reduceEqDiff, Nat.reduceAdd, Nat.reduceMul, Nat.reduceLT, Nat.reduceLeDiff, Nat.reduceSub, reduceCtorEq, reduceIte, Int.reduceToNat, beq_self_eq_true, Bool.and_self, List.take_length, decide_true, Bool.not_true, Bool.not_false]
  refine .inl ⟨_, h4, ?_⟩; try simp only [go_sem, Int.reduceEq, Int.reduceNe, Int.reduceLT, Int.reduceLE, Nat.reduceEqDiff, Nat.reduceAdd, Nat.reduceMul, Nat.reduceLT, Nat.reduceLeDiff, Nat.reduceSub, reduceCtorEq, reduceIte, Int.reduceToNat, beq_self_eq_true, Bool.and_self, List.take_length, decide_true, Bool.not_true, Bool.not_false]
  refine .inl ⟨_, hw, ?_⟩; try simp only [go_sem, Int.reduceEq, Int.reduceNe, Int.reduceLT, Int.reduceLE, Nat.reduceEqDiff, Nat.reduceAdd, Nat.reduceMul, Nat.reduceLT, Nat.reduceLeDiff, Nat.reduceSub, reduceCtorEq, reduceIte, Int.reduceToNat, beq_self_eq_true, Bool.and_self, List.take_length, decide_true, Bool.not_true, Bool.not_false]
  refine hNh _ (VWp.keep [2] [] ?_); simp only [go_sem, Int.reduceEq, Int.reduceNe, Int.reduceLT, Int.reduceLE, Nat.reduceEqDiff, Nat.reduceAdd, Nat.reduceMul, Nat.reduceLT, Nat.reduceLeDiff, Nat.reduceSub, reduceCtorEq, reduceIte, Int.reduceToNat, beq_self_eq_true, Bool.and_self, List.take_length, decide_true, Bool.not_true, Bool.not_false]
  refine vwp_ret ?_
  simp only [go_sem, Int.reduceEq, Int.reduceNe, Int.reduceLT, Int.reduceLE, Nat.reduceEqDiff, Nat.reduceAdd, Nat.reduceMul, Nat.reduceLT, Nat.reduceLeDiff, Nat.reduceSub, reduceCtorEq, reduceIte, Int.reduceToNat, beq_self_eq_true, Bool.and_self, List.take_length, decide_true, Bool.not_true, Bool.not_false]
  exact LeV.refl _
end Go.Proofs.YtnaljgmcpagbbaaGreatDoor

import Derived.Outline
import Derived.Test.YtldkmclfhjcicaaDoorWH
import Derived.Test.YtldkmclfhjcicaaDoorWG
import Derived.Test.YtldkmclfhjcicaaDoorWK
/- CatalogCalls. -/
-- SIMP: beq_self_eq_true, Bool.and_self
namespace Go.Proofs.YtldkmclfhjcicaaDoor
open Go.RowKit
set_option linter.unusedVariables false
set_option linter.unusedSimpArgs false
/-- the entry that a number and a unit make -/
def knownO (lim rel : Int) : OpS := ⟨0, 0, lim % 18446744073709551616, rel, []⟩
theorem toI_emod {n : Int} (h0 : -9223372036854775808 ≤ n) (h1 : n ≤ 9223372036854775807) : toI (n % 18446744073709551616) = n := by unfold toI; split <;> omega
theorem knownO_ok {lim rel : Int} (h1 : -9223372036854775808 ≤ rel) (h2 : rel ≤ 9223372036854775807) : OpOk (knownO lim rel) :=
  ⟨by show 0 < 256; omega, by show 0 < 256; omega, by show 0 ≤ lim % 18446744073709551616; omega, by show lim % 18446744073709551616 < _; omega, h1, h2, by simp [knownO]⟩
theorem lknown_spec (s : Bs) (lim rel : Int) (l1 : -9223372036854775808 ≤ lim) (l2 : lim ≤ 9223372036854775807) (h1 : -9223372036854775808 ≤ rel) (h2 : rel ≤ 9223372036854775807) :
    Spec Tryd.prog 25 [.str s, .agg [.int .u8 0, .int .u8 0, .int .i64 lim, .int .i64 rel, .str []]] (entV (entS s (knownO lim rel))) := by
  have := lentry_spec s (knownO lim rel) (knownO_ok h1 h2)
  unfold opV opC knownO at this
  simp only [toI_emod l1 l2] at this
  exact this
theorem limMod (lim : Int) : IntKind.i64.wrap (1 + IntKind.i64.wrap ((IntKind.u64.wrap lim).tmod 4)) = 1 + (lim % 18446744073709551616) % 4 := by
  rw [wrap_u64, tmod_pos (by omega), wrap_i64 (n := (lim % 18446744073709551616) % 4) (by omega) (by omega), wrap_i64 (by omega) (by omega)]
theorem relMod (rel : Int) : IntKind.i64.wrap (IntKind.i64.wrap ((IntKind.u64.wrap rel).tmod 9) - 4) = (rel % 18446744073709551616) % 9 - 4 := by
  rw [wrap_u64, tmod_pos (by omega), wrap_i64 (n := (rel % 18446744073709551616) % 9) (by omega) (by omega), wrap_i64 (by omega) (by omega)]
set_option maxHeartbeats 8000000 in
set_option maxRecDepth 4000 in
theorem CatalogCalls_spec (c : Cat) (c1 : c.es.length ≤ 9223372036854775807) (c2 : c.gs.length ≤ 9223372036854775807) (l : List OpS) (hl : ∀ o ∈ l, OpOk o) (hn : l.length ≤ 9223372036854775807) (e : Ent) (s : Bs)
    (lim rel : Int) (l1 : -9223372036854775808 ≤ lim) (l2 : lim ≤ 9223372036854775807) (r1 : -9223372036854775808 ≤ rel) (r2 : rel ≤ 9223372036854775807) (wh : Nat) (hwh : wh < 256) :
    Spec Tryd.prog 7 [catV c, .sl 5 (l.map opC), entV e, .str s, .int .i64 lim, .int .i64 rel, .int .u8 (wh : Int)] (.bool true) := by
  have hok := okMake_make l
  have hv := validC_all hok.1
  obtain ⟨D, hD⟩ : ∃ D, makeS l = D := ⟨_, rfl⟩
  rw [hD] at hv
  obtain ⟨f1, f2⟩ := fewC_len c
  obtain ⟨K, hK⟩ : ∃ K, entS (wordS wh) (knownO lim rel) = K := ⟨_, rfl⟩
  have hw3 := which3 wh hwh
  have hlm := limMod lim
  have hrm := relMod rel
  refine spec_of tt_ok Tryd.func7 rfl (by decide) Tryd.ntmps7 (congrArg Array.toList Tryd.results7) (by simp) (by decide) rfl rfl (fun F hF => ?_)
  refine vwp_seq_k fun Na hNa => vreg tt_ok hF rfl ?_; simp only [go_sem, Int.reduceEq, Int.reduceNe, Int.reduceLT, Int.reduceLE, Nat.reduceEqDiff, Nat.reduceAdd, Nat.reduceMul, Nat.reduceLT, Nat.reduceLeDiff, Nat.reduceSub, reduceCtorEq, reduceIte, Int.reduceToNat, beq_self_eq_true, Bool.and_self]
  refine hNa _ (VWp.keepR [1,3,4,5,6,7,9] [7,9] tt_ok hF rfl fun Nb hNb => ?_); simp only [go_sem, Int.reduceEq, Int.reduceNe, Int.reduceLT, Int.reduceLE, Nat.reduceEqDiff, Nat.reduceAdd, Nat.reduceMul, Nat.reduceLT, Nat.reduceLeDiff, Nat.reduceSub, reduceCtorEq, reduceIte, Int.reduceToNat, beq_self_eq_true, Bool.and_self]
  rw [min60 s.length s rfl]
  simp only [go_sem, Int.reduceEq, Int.reduceNe, Int.reduceLT, Int.reduceLE, Nat.reduceEqDiff, Nat.reduceAdd, Nat.reduceMul, Nat.reduceLT, Nat.reduceLeDiff, Nat.reduceSub, reduceCtorEq, reduceIte, Int.reduceToNat, beq_self_eq_true, Bool.and_self, take60]
  refine ⟨⟨by omega, by omega⟩, ?_⟩
  obtain ⟨n, hnm⟩ : ∃ n, s.take 60 = n := ⟨_, rfl⟩
  have hnl : n.length ≤ 60 := by rw [← hnm]; simp; omega
  rw [hnm]
  refine hNb _ (VWp.keep [1,3,4,5,6,7,9] [7,9] ?_); simp only [go_sem, Int.reduceEq, Int.reduceNe, Int.reduceLT, Int.reduceLE, Nat.reduceEqDiff, Nat.reduceAdd, Nat.reduceMul, Nat.reduceLT, Nat.reduceLeDiff, Nat.reduceSub, reduceCtorEq, reduceIte, Int.reduceToNat, beq_self_eq_true, Bool.and_self]
  refine vmeet (fun _ : Unit => [(1, .sl 5 (l.map opC)), (3, .str n), (4, .int .i64 lim), (5, .int .i64 rel), (6, .int .u8 (wh : Int)), (7, .ptr 7 0), (9, .ptr 9 0)])
    (fun _ => [(7, .box 36 [.sl 4 (c.es.map entC), .sl 2 (c.gs.map grpC)]), (9, .box 50 (entC (cutE e)))]) (fun _ => True) ?_ ?_
  · have e1 := take60 e.name
    have e2 := take60 e.serial
    refine vregord tt_ok mixed hF rfl true [[0, 1, 2, 3, 4, 5, 6, 7, 8, 9, 10, 11, 12, 13, 14, 15, 16, 17], [0, 1, 2, 3, 4, 5, 6, 7, 8, 9, 10, 11, 12, 14, 15, 13, 16, 17]] [] (by kernel_rfl) ⟨?_, ?_, trivial⟩ <;> simp only [pickL, go_sem, Int.reduceEq, Int.reduceNe, Int.reduceLT, Int.reduceLE, Nat.reduceEqDiff, Nat.reduceAdd, Nat.reduceMul, Nat.reduceLT, Nat.reduceLeDiff, Nat.reduceSub, reduceCtorEq, reduceIte, Int.reduceToNat, beq_self_eq_true, Bool.and_self]
    all_goals
      rw [min60 e.name.length e.name rfl, min60 e.serial.length e.serial rfl]
      simp only [go_sem, Int.reduceEq, Int.reduceNe, Int.reduceLT, Int.reduceLE, Nat.reduceEqDiff, Nat.reduceAdd, Nat.reduceMul, Nat.reduceLT, Nat.reduceLeDiff, Nat.reduceSub, reduceCtorEq, reduceIte, Int.reduceToNat, beq_self_eq_true, Bool.and_self, e1, e2, cutE]
      exact ⟨⟨by omega, by omega⟩, ⟨by omega, by omega⟩, (), by simp⟩
  intro _ _
  refine vwp_seq_k fun Nd hNd => vreg tt_ok hF rfl ?_; simp only [go_sem, Int.reduceEq, Int.reduceNe, Int.reduceLT, Int.reduceLE, Nat.reduceEqDiff, Nat.reduceAdd, Nat.reduceMul, Nat.reduceLT, Nat.reduceLeDiff, Nat.reduceSub, reduceCtorEq, reduceIte, Int.reduceToNat, beq_self_eq_true, Bool.and_self]
  refine .inl ⟨_, Make_spec l hl hn, ?_⟩; try simp only [go_sem, Int.reduceEq, Int.reduceNe, Int.reduceLT, Int.reduceLE, Nat.reduceEqDiff, Nat.reduceAdd, Nat.reduceMul, Nat.reduceLT, Nat.reduceLeDiff, Nat.reduceSub, reduceCtorEq, reduceIte, Int.reduceToNat, beq_self_eq_true, Bool.and_self]
  rw [hD]
  refine .inl ⟨_, Prog_spec D (by omega) (by omega), ?_⟩; try simp only [go_sem, Int.reduceEq, Int.reduceNe, Int.reduceLT, Int.reduceLE, Nat.reduceEqDiff, Nat.reduceAdd, Nat.reduceMul, Nat.reduceLT, Nat.reduceLeDiff, Nat.reduceSub, reduceCtorEq, reduceIte, Int.reduceToNat, beq_self_eq_true, Bool.and_self]
  refine hNd _ (VWp.keepR [3,4,5,6,7,9,15] [7,9,15] tt_ok hF rfl fun Ne hNe => ?_); simp only [go_sem, Int.reduceEq, Int.reduceNe, Int.reduceLT, Int.reduceLE, Nat.reduceEqDiff, Nat.reduceAdd, Nat.reduceMul, Nat.reduceLT, Nat.reduceLeDiff, Nat.reduceSub, reduceCtorEq, reduceIte, Int.reduceToNat, beq_self_eq_true, Bool.and_self]
  refine .inl ⟨_, Word_spec wh hwh, ?_⟩; try simp only [go_sem, Int.reduceEq, Int.reduceNe, Int.reduceLT, Int.reduceLE, Nat.reduceEqDiff, Nat.reduceAdd, Nat.reduceMul, Nat.reduceLT, Nat.reduceLeDiff, Nat.reduceSub, reduceCtorEq, reduceIte, Int.reduceToNat, beq_self_eq_true, Bool.and_self]
  refine .inl ⟨_, lknown_spec (wordS wh) lim rel l1 l2 r1 r2, ?_⟩; try simp only [go_sem, Int.reduceEq, Int.reduceNe, Int.reduceLT, Int.reduceLE, Nat.reduceEqDiff, Nat.reduceAdd, Nat.reduceMul, Nat.reduceLT, Nat.reduceLeDiff, Nat.reduceSub, reduceCtorEq, reduceIte, Int.reduceToNat, beq_self_eq_true, Bool.and_self]
  rw [hK]
  refine hNe _ (VWp.keep [3,4,5,6,7,9,15,16] [7,9,15,16] ?_); simp only [go_sem, Int.reduceEq, Int.reduceNe, Int.reduceLT, Int.reduceLE, Nat.reduceEqDiff, Nat.reduceAdd, Nat.reduceMul, Nat.reduceLT, Nat.reduceLeDiff, Nat.reduceSub, reduceCtorEq, reduceIte, Int.reduceToNat, beq_self_eq_true, Bool.and_self]
  refine vwp_seq_k fun Nf hNf => ?_
  refine vwp_seq_k fun Ng hNg => vregd tt_ok mixed hF rfl (by kernel_rfl) (by kernel_rfl) ?_; simp only [go_sem, Int.reduceEq, Int.reduceNe, Int.reduceLT, Int.reduceLE, Nat.reduceEqDiff, Nat.reduceAdd, Nat.reduceMul, Nat.reduceLT, Nat.reduceLeDiff, Nat.reduceSub, reduceCtorEq, reduceIte, Int.reduceToNat, beq_self_eq_true, Bool.and_self]
  refine .inl ⟨_, few_spec c c1 c2, ?_⟩; try simp only [go_sem, Int.reduceEq, Int.reduceNe, Int.reduceLT, Int.reduceLE, Nat.reduceEqDiff, Nat.reduceAdd, Nat.reduceMul, Nat.reduceLT, Nat.reduceLeDiff, Nat.reduceSub, reduceCtorEq, reduceIte, Int.reduceToNat, beq_self_eq_true, Bool.and_self]
  refine hNg _ (VWp.keep [3,4,5,6,9,16,52,53] [9,16] ?_); simp only [go_sem, Int.reduceEq, Int.reduceNe, Int.reduceLT, Int.reduceLE, Nat.reduceEqDiff, Nat.reduceAdd, Nat.reduceMul, Nat.reduceLT, Nat.reduceLeDiff, Nat.reduceSub, reduceCtorEq, reduceIte, Int.reduceToNat, beq_self_eq_true, Bool.and_self]
  refine vwp_block (vloop (fun k : Nat => [(3, .str n), (4, .int .i64 lim), (5, .int .i64 rel), (6, .int .u8 (wh : Int)), (9, .ptr 9 0), (16, .ptr 16 0), (52, .agg [.sl 4 ((fewC c).es.map entC), .sl 2 ((fewC c).gs.map grpC), .sl 4 (D.es.map entC), .sl 2 (D.gs.map grpC)]), (53, .int .i64 (k : Int))])
    (fun _ => [(9, .box 50 (entC (cutE e))), (16, .box 50 (entC K))]) (fun k => k ≤ 2) (fun k => 2 - k) 0 (by omega) (by simp only [go_sem, Int.reduceEq, Int.reduceNe, Int.reduceLT, Int.reduceLE, Nat.reduceEqDiff, Nat.reduceAdd, Nat.reduceMul, Nat.reduceLT, Nat.reduceLeDiff, Nat.reduceSub, reduceCtorEq, reduceIte, Int.reduceToNat, beq_self_eq_true, Bool.and_self]) ?_)
  intro k hk
  refine vwp_seq_k fun Nh hNh => vreg tt_ok hF rfl ?_; simp only [go_sem, Int.reduceEq, Int.reduceNe, Int.reduceLT, Int.reduceLE, Nat.reduceEqDiff, Nat.reduceAdd, Nat.reduceMul, Nat.reduceLT, Nat.reduceLeDiff, Nat.reduceSub, reduceCtorEq, reduceIte, Int.reduceToNat, beq_self_eq_true, Bool.and_self]
  refine hNh _ (VWp.keep [3,4,5,6,9,16,52,53,54] [9,16] ?_); simp only [go_sem, Int.reduceEq, Int.reduceNe, Int.reduceLT, Int.reduceLE, Nat.reduceEqDiff, Nat.reduceAdd, Nat.reduceMul, Nat.reduceLT, Nat.reduceLeDiff, Nat.reduceSub, reduceCtorEq, reduceIte, Int.reduceToNat, beq_self_eq_true, Bool.and_self]
  refine vwp_seq_k fun Ni hNi => ?_
  refine vif rfl ⟨fun ht => ?_, fun hf => ?_⟩
  · have hlt : k < 2 := by have := of_decide_eq_true ht; omega
    refine vwp_skip (hNi _ ?_)
    refine vwp_seq_k fun Nj hNj => ?_
    refine vwp_block ?_
    refine vmeet (fun X : Cat => [(3, .str n), (4, .int .i64 lim), (5, .int .i64 rel), (6, .int .u8 (wh : Int)), (9, .ptr 9 0), (16, .ptr 16 0), (18, .ptr 18 0), (52, .agg [.sl 4 ((fewC c).es.map entC), .sl 2 ((fewC c).gs.map grpC), .sl 4 (D.es.map entC), .sl 2 (D.gs.map grpC)]), (53, .int .i64 (k : Int))])
      (fun X => [(9, .box 50 (entC (cutE e))), (16, .box 50 (entC K)), (18, .box 36 [.sl 4 (X.es.map entC), .sl 2 (X.gs.map grpC)])]) (fun X => X.es.length ≤ 1000000 ∧ X.gs.length ≤ 1000000) ?_ ?_
    · have hk2 : k = 0 ∨ k = 1 := by omega
      rcases hk2 with rfl | rfl
      · refine vreg tt_ok hF rfl ?_; simp only [go_sem, Int.reduceEq, Int.reduceNe, Int.reduceLT, Int.reduceLE, Nat.reduceEqDiff, Nat.reduceAdd, Nat.reduceMul, Nat.reduceLT, Nat.reduceLeDiff, Nat.reduceSub, reduceCtorEq, reduceIte, Int.reduceToNat, beq_self_eq_true, Bool.and_self]
        exact ⟨fewC c, ⟨f1, f2⟩, by simp⟩
      · refine vreg tt_ok hF rfl ?_; simp only [go_sem, Int.reduceEq, Int.reduceNe, Int.reduceLT, Int.reduceLE, Nat.reduceEqDiff, Nat.reduceAdd, Nat.reduceMul, Nat.reduceLT, Nat.reduceLeDiff, Nat.reduceSub, reduceCtorEq, reduceIte, Int.reduceToNat, beq_self_eq_true, Bool.and_self]
        exact ⟨D, ⟨by omega, by omega⟩, by simp⟩
    rintro X ⟨x1, x2⟩
    refine vwp_seq_k fun Nl hNl => vregd tt_ok mixed hF rfl (by kernel_rfl) (by kernel_rfl) ?_; simp only [go_sem, Int.reduceEq, Int.reduceNe, Int.reduceLT, Int.reduceLE, Nat.reduceEqDiff, Nat.reduceAdd, Nat.reduceMul, Nat.reduceLT, Nat.reduceLeDiff, Nat.reduceSub, reduceCtorEq, reduceIte, Int.reduceToNat, beq_self_eq_true, Bool.and_self, hw3, hlm, hrm]
    refine .inl ⟨_, adds_spec X (cutE e) x1 x2, ?_⟩; try simp only [go_sem, Int.reduceEq, Int.reduceNe, Int.reduceLT, Int.reduceLE, Nat.reduceEqDiff, Nat.reduceAdd, Nat.reduceMul, Nat.reduceLT, Nat.reduceLeDiff, Nat.reduceSub, reduceCtorEq, reduceIte, Int.reduceToNat, beq_self_eq_true, Bool.and_self]
    try simp only [hw3, hlm, hrm, go_sem]
    refine .inl ⟨_, adds_spec X K x1 x2, ?_⟩; try simp only [go_sem, Int.reduceEq, Int.reduceNe, Int.reduceLT, Int.reduceLE, Nat.reduceEqDiff, Nat.reduceAdd, Nat.reduceMul, Nat.reduceLT, Nat.reduceLeDiff, Nat.reduceSub, reduceCtorEq, reduceIte, Int.reduceToNat, beq_self_eq_true, Bool.and_self]
    try simp only [hw3, hlm, hrm, go_sem]
    refine .inl ⟨_, llooks_spec X n lim rel x1 x2 (by omega) r1 r2, ?_⟩; try simp only [go_sem, Int.reduceEq, Int.reduceNe, Int.reduceLT, Int.reduceLE, Nat.reduceEqDiff, Nat.reduceAdd, Nat.reduceMul, Nat.reduceLT, Nat.reduceLeDiff, Nat.reduceSub, reduceCtorEq, reduceIte, Int.reduceToNat, beq_self_eq_true, Bool.and_self]
    try simp only [hw3, hlm, hrm, go_sem]
    refine .inl ⟨_, Word_spec wh hwh, ?_⟩; try simp only [go_sem, Int.reduceEq, Int.reduceNe, Int.reduceLT, Int.reduceLE, Nat.reduceEqDiff, Nat.reduceAdd, Nat.reduceMul, Nat.reduceLT, Nat.reduceLeDiff, Nat.reduceSub, reduceCtorEq, reduceIte, Int.reduceToNat, beq_self_eq_true, Bool.and_self]
    try simp only [hw3, hlm, hrm, go_sem]
    refine .inl ⟨_, llooks_spec X (wordS wh) (1 + (lim % 18446744073709551616) % 4) ((rel % 18446744073709551616) % 9 - 4) x1 x2 (wordS_le _) (by omega) (by omega), ?_⟩; try simp only [go_sem, Int.reduceEq, Int.reduceNe, Int.reduceLT, Int.reduceLE, Nat.reduceEqDiff, Nat.reduceAdd, Nat.reduceMul, Nat.reduceLT, Nat.reduceLeDiff, Nat.reduceSub, reduceCtorEq, reduceIte, Int.reduceToNat, beq_self_eq_true, Bool.and_self]
    try simp only [hw3, hlm, hrm, go_sem]
    refine .inl ⟨_, Word_spec (wh / 3 * 3) (by omega), ?_⟩; try simp only [go_sem, Int.reduceEq, Int.reduceNe, Int.reduceLT, Int.reduceLE, Nat.reduceEqDiff, Nat.reduceAdd, Nat.reduceMul, Nat.reduceLT, Nat.reduceLeDiff, Nat.reduceSub, reduceCtorEq, reduceIte, Int.reduceToNat, beq_self_eq_true, Bool.and_self]
    try simp only [hw3, hlm, hrm, go_sem]
    refine .inl ⟨_, llooks_spec X (wordS (wh / 3 * 3)) lim rel x1 x2 (wordS_le _) r1 r2, ?_⟩; try simp only [go_sem, Int.reduceEq, Int.reduceNe, Int.reduceLT, Int.reduceLE, Nat.reduceEqDiff, Nat.reduceAdd, Nat.reduceMul, Nat.reduceLT, Nat.reduceLeDiff, Nat.reduceSub, reduceCtorEq, reduceIte, Int.reduceToNat, beq_self_eq_true, Bool.and_self]
    refine hNl _ (VWp.keep [3,4,5,6,9,16,52,53,101] [9,16] ?_); simp only [go_sem, Int.reduceEq, Int.reduceNe, Int.reduceLT, Int.reduceLE, Nat.reduceEqDiff, Nat.reduceAdd, Nat.reduceMul, Nat.reduceLT, Nat.reduceLeDiff, Nat.reduceSub, reduceCtorEq, reduceIte, Int.reduceToNat, beq_self_eq_true, Bool.and_self]
    refine vif rfl ⟨fun hf => (by cases hf), fun _ => ?_⟩
    refine vwp_skip (hNj _ ?_)
    refine vreg tt_ok hF rfl ?_; simp only [go_sem, Int.reduceEq, Int.reduceNe, Int.reduceLT, Int.reduceLE, Nat.reduceEqDiff, Nat.reduceAdd, Nat.reduceMul, Nat.reduceLT, Nat.reduceLeDiff, Nat.reduceSub, reduceCtorEq, reduceIte, Int.reduceToNat, beq_self_eq_true, Bool.and_self]
    rw [wrap_i64 (by omega) (by omega)]
    exact ⟨k + 1, by omega, by omega, by simp⟩
  · refine vwp_exit ?_
    simp only [go_sem, Int.reduceEq, Int.reduceNe, Int.reduceLT, Int.reduceLE, Nat.reduceEqDiff, Nat.reduceAdd, Nat.reduceMul, Nat.reduceLT, Nat.reduceLeDiff, Nat.reduceSub, reduceCtorEq, reduceIte, Int.reduceToNat, beq_self_eq_true, Bool.and_self]
    refine hNf _ (VWp.keepR [] [] tt_ok hF rfl fun Nn hNn => ?_); simp only [go_sem, Int.reduceEq, Int.reduceNe, Int.reduceLT, Int.reduceLE, Nat.reduceEqDiff, Nat.reduceAdd, Nat.reduceMul, Nat.reduceLT, Nat.reduceLeDiff, Nat.reduceSub, reduceCtorEq, reduceIte, Int.reduceToNat, beq_self_eq_true, Bool.and_self]
    refine .inl ⟨_, works_spec, ?_⟩; try simp only [go_sem, Int.reduceEq, Int.reduceNe, Int.reduceLT, Int.reduceLE, Nat.reduceEqDiff, Nat.reduceAdd, Nat.reduceMul, Nat.reduceLT, Nat.reduceLeDiff, Nat.reduceSub, reduceCtorEq, reduceIte, Int.reduceToNat, beq_self_eq_true, Bool.and_self]
    refine hNn _ (VWp.keep [14] [] ?_); simp only [go_sem, Int.reduceEq, Int.reduceNe, Int.reduceLT, Int.reduceLE, Nat.reduceEqDiff, Nat.reduceAdd, Nat.reduceMul, Nat.reduceLT, Nat.reduceLeDiff, Nat.reduceSub, reduceCtorEq, reduceIte, Int.reduceToNat, beq_self_eq_true, Bool.and_self]
    refine vwp_ret ?_
    simp only [go_sem, Int.reduceEq, Int.reduceNe, Int.reduceLT, Int.reduceLE, Nat.reduceEqDiff, Nat.reduceAdd, Nat.reduceMul, Nat.reduceLT, Nat.reduceLeDiff, Nat.reduceSub, reduceCtorEq, reduceIte, Int.reduceToNat, beq_self_eq_true, Bool.and_self]
    exact LeV.refl _
theorem w64 {n : Int} (h : (Lit.int .i64 n).wf = true) : -9223372036854775808 ≤ n ∧ n ≤ 9223372036854775807 := by
  simp [Lit.wf, IntKind.min, IntKind.max, IntKind.signed, IntKind.bits] at h
  omega
theorem CatalogCalls_in (w : World) (ve vg : Value) (c : Cat) (c1 : c.es.length ≤ 9223372036854775807) (c2 : c.gs.length ≤ 9223372036854775807) (rc : Rep (S0 (fun _ _ => False) w) (catV c) (.agg #[ve, vg])) (v : Value) (l : List OpS) (hl : ∀ o ∈ l, OpOk o)
    (hn : l.length ≤ 9223372036854775807) (hv : Rep (S0 (fun _ _ => False) w) (.sl 5 (l.map opC)) v) (x : Value) (e : Ent) (hx : Rep (S0 (fun _ _ => False) w) (entV e) x) (s : ByteArray) (lim rel : Int) (wl : (Lit.int .i64 lim).wf = true) (wr : (Lit.int .i64 rel).wf = true) (wh : Nat) (hwh : wh < 256) :
    Calls Tryd.prog 7 #[.agg #[ve, vg], v, x, .string s, .int .i64 lim, .int .i64 rel, .int .u8 (wh : Int)] w fun e w' => e = .returned (.bool true) ∧ Chg [] w w' :=
  spec_true (CatalogCalls_spec c c1 c2 l hl hn e s.data.toList lim rel (w64 wl).1 (w64 wl).2 (w64 wr).1 (w64 wr).2 wh hwh) (vs := [.agg #[ve, vg], v, x, .string s, .int .i64 lim, .int .i64 rel, .int .u8 (wh : Int)]) w
    ⟨_, _, rfl, rc, _, _, rfl, hv, _, _, rfl, hx, _, _, rfl, rfl, _, _, rfl, rfl, _, _, rfl, rfl, _, _, rfl, rfl, rfl⟩
end Go.Proofs.YtldkmclfhjcicaaDoor

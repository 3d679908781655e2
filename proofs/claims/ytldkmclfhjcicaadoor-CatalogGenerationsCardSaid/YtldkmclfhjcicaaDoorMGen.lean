import Derived.Outline
import Derived.Test.YtldkmclfhjcicaaDoorWG
import Derived.Test.YtldkmclfhjcicaaDoorWK
/- CatalogGenerations. -/
-- SIMP: catV, entsV, grpsV, entV, entC, grpC, beq_self_eq_true, Bool.and_self
namespace Go.Proofs.YtldkmclfhjcicaaDoor
open Go.RowKit
set_option linter.unusedVariables false
set_option linter.unusedSimpArgs false
theorem nbyte (w : Nat) (h : w < 256) : UInt8.ofNat (IntKind.u8.wrap (65 + ((w : Int)).tmod 26)).toNat = UInt8.ofNat (65 + w % 26) := by
  rw [tmod_pos (by omega), wrap_u8]; congr 1; omega
theorem nmost (w : Nat) (h : w < 256) : IntKind.i64.wrap (1 + IntKind.i64.wrap (((w : Int)).tmod 12)) = ((1 + w % 12 : Nat) : Int) := by
  rw [tmod_pos (by omega), wrap_i64 (n := (w : Int) % 12) (by omega) (by omega), wrap_i64 (by omega) (by omega)]; omega
theorem nmany (w : Nat) (h : w < 256) : IntKind.i64.wrap (((w : Int)).tmod 30) = ((w % 30 : Nat) : Int) := by
  rw [tmod_pos (by omega), wrap_i64 (by omega) (by omega)]; omega
set_option maxHeartbeats 8000000 in
set_option maxRecDepth 4000 in
theorem CatalogGenerations_spec (l : List OpS) (hl : ∀ o ∈ l, OpOk o) (hn : l.length ≤ 9223372036854775807) (lim many wh : Nat) (h1 : lim < 256) (h2 : many < 256) (h3 : wh < 256) :
    Spec Tryd.prog 4 [.sl 5 (l.map opC), .int .u8 (lim : Int), .int .u8 (many : Int), .int .u8 (wh : Int)] (.bool true) := by
  refine spec_of tt_ok Tryd.func4 rfl (by decide) Tryd.ntmps4 (congrArg Array.toList Tryd.results4) (by simp) (by decide) rfl rfl (fun F hF => ?_)
  refine vwp_seq_k fun N hN => vreg tt_ok hF rfl ?_; simp only [go_sem, Int.reduceEq, Int.reduceNe, Int.reduceLT, Int.reduceLE, Nat.reduceEqDiff, Nat.reduceAdd, Nat.reduceMul, Nat.reduceLT, Nat.reduceLeDiff, Nat.reduceSub, reduceCtorEq, reduceIte, Int.reduceToNat, catV, entsV, grpsV, entV, entC, grpC, beq_self_eq_true, Bool.and_self]
  refine hN _ (VWp.keep [0,1,2,3] [] ?_); simp only [go_sem, Int.reduceEq, Int.reduceNe, Int.reduceLT, Int.reduceLE, Nat.reduceEqDiff, Nat.reduceAdd, Nat.reduceMul, Nat.reduceLT, Nat.reduceLeDiff, Nat.reduceSub, reduceCtorEq, reduceIte, Int.reduceToNat, catV, entsV, grpsV, entV, entC, grpC, beq_self_eq_true, Bool.and_self]
  refine vwp_seq_k fun N hN => ?_
  refine vwp_seq_k fun Na hNa => vreg tt_ok hF rfl ?_; simp only [go_sem, Int.reduceEq, Int.reduceNe, Int.reduceLT, Int.reduceLE, Nat.reduceEqDiff, Nat.reduceAdd, Nat.reduceMul, Nat.reduceLT, Nat.reduceLeDiff, Nat.reduceSub, reduceCtorEq, reduceIte, Int.reduceToNat, catV, entsV, grpsV, entV, entC, grpC, beq_self_eq_true, Bool.and_self]
  refine .inl ⟨_, works_spec, ?_⟩; try simp only [go_sem, Int.reduceEq, Int.reduceNe, Int.reduceLT, Int.reduceLE, Nat.reduceEqDiff, Nat.reduceAdd, Nat.reduceMul, Nat.reduceLT, Nat.reduceLeDiff, Nat.reduceSub, reduceCtorEq, reduceIte, Int.reduceToNat, catV, entsV, grpsV, entV, entC, grpC, beq_self_eq_true, Bool.and_self]
  refine hNa _ (VWp.keep [0,1,2,3,28] [] ?_); simp only [go_sem, Int.reduceEq, Int.reduceNe, Int.reduceLT, Int.reduceLE, Nat.reduceEqDiff, Nat.reduceAdd, Nat.reduceMul, Nat.reduceLT, Nat.reduceLeDiff, Nat.reduceSub, reduceCtorEq, reduceIte, Int.reduceToNat, catV, entsV, grpsV, entV, entC, grpC, beq_self_eq_true, Bool.and_self]
  refine vif rfl ⟨fun hf => (by cases hf), fun _ => ?_⟩
  refine vwp_skip (hN _ ?_)
  refine vwp_seq_k fun N hN => ?_
  refine vreg tt_ok hF rfl ?_; simp only [go_sem, Int.reduceEq, Int.reduceNe, Int.reduceLT, Int.reduceLE, Nat.reduceEqDiff, Nat.reduceAdd, Nat.reduceMul, Nat.reduceLT, Nat.reduceLeDiff, Nat.reduceSub, reduceCtorEq, reduceIte, Int.reduceToNat, catV, entsV, grpsV, entV, entC, grpC, beq_self_eq_true, Bool.and_self, nbyte wh h3]
  refine hN _ (VWp.keep [0,1,2,9] [] ?_); simp only [go_sem, Int.reduceEq, Int.reduceNe, Int.reduceLT, Int.reduceLE, Nat.reduceEqDiff, Nat.reduceAdd, Nat.reduceMul, Nat.reduceLT, Nat.reduceLeDiff, Nat.reduceSub, reduceCtorEq, reduceIte, Int.reduceToNat, catV, entsV, grpsV, entV, entC, grpC, beq_self_eq_true, Bool.and_self]
  refine vwp_seq_k fun N hN => vreg tt_ok hF rfl ?_; simp only [go_sem, Int.reduceEq, Int.reduceNe, Int.reduceLT, Int.reduceLE, Nat.reduceEqDiff, Nat.reduceAdd, Nat.reduceMul, Nat.reduceLT, Nat.reduceLeDiff, Nat.reduceSub, reduceCtorEq, reduceIte, Int.reduceToNat, catV, entsV, grpsV, entV, entC, grpC, beq_self_eq_true, Bool.and_self, nmost lim h1]
  refine hN _ (VWp.keep [0,2,9,10] [] ?_); simp only [go_sem, Int.reduceEq, Int.reduceNe, Int.reduceLT, Int.reduceLE, Nat.reduceEqDiff, Nat.reduceAdd, Nat.reduceMul, Nat.reduceLT, Nat.reduceLeDiff, Nat.reduceSub, reduceCtorEq, reduceIte, Int.reduceToNat, catV, entsV, grpsV, entV, entC, grpC, beq_self_eq_true, Bool.and_self]
  obtain ⟨most, hmost⟩ : ∃ m, 1 + lim % 12 = m := ⟨_, rfl⟩
  rw [hmost]
  obtain ⟨b1, b2, b3⟩ := newBase_facts wh
  have hbe : ([78, 69, 87, 46, 71, UInt8.ofNat (65 + wh % 26)] : Bs) = newBase wh := rfl
  rw [hbe]
  obtain ⟨B, hB⟩ : ∃ B, newBase wh = B := ⟨_, rfl⟩
  have hok := okMake_make l
  have hv := validC_all hok.1
  have hdef := define_new hok wh most (by omega) (by omega)
  rw [hB] at b1 b2 b3 hdef ⊢
  refine vwp_seq_k fun N hN => vreg tt_ok hF rfl ?_; simp only [go_sem, Int.reduceEq, Int.reduceNe, Int.reduceLT, Int.reduceLE, Nat.reduceEqDiff, Nat.reduceAdd, Nat.reduceMul, Nat.reduceLT, Nat.reduceLeDiff, Nat.reduceSub, reduceCtorEq, reduceIte, Int.reduceToNat, catV, entsV, grpsV, entV, entC, grpC, beq_self_eq_true, Bool.and_self]
  refine .inl ⟨_, Make_spec l hl hn, ?_⟩; try simp only [go_sem, Int.reduceEq, Int.reduceNe, Int.reduceLT, Int.reduceLE, Nat.reduceEqDiff, Nat.reduceAdd, Nat.reduceMul, Nat.reduceLT, Nat.reduceLeDiff, Nat.reduceSub, reduceCtorEq, reduceIte, Int.reduceToNat, catV, entsV, grpsV, entV, entC, grpC, beq_self_eq_true, Bool.and_self]
  refine .inl ⟨_, Prog_spec (makeS l) (by omega) (by omega), ?_⟩; try simp only [go_sem, Int.reduceEq, Int.reduceNe, Int.reduceLT, Int.reduceLE, Nat.reduceEqDiff, Nat.reduceAdd, Nat.reduceMul, Nat.reduceLT, Nat.reduceLeDiff, Nat.reduceSub, reduceCtorEq, reduceIte, Int.reduceToNat, catV, entsV, grpsV, entV, entC, grpC, beq_self_eq_true, Bool.and_self]
  rcases hdef with hdef | ⟨d0, hdef, hinv0⟩
  · refine .inl ⟨_, Define_at (c := makeS l) (s := B) (l := most) hdef, ?_⟩; try simp only [go_sem, Int.reduceEq, Int.reduceNe, Int.reduceLT, Int.reduceLE, Nat.reduceEqDiff, Nat.reduceAdd, Nat.reduceMul, Nat.reduceLT, Nat.reduceLeDiff, Nat.reduceSub, reduceCtorEq, reduceIte, Int.reduceToNat, catV, entsV, grpsV, entV, entC, grpC, beq_self_eq_true, Bool.and_self]
    refine hN _ (VWp.keep [11,12] [11] ?_); simp only [go_sem, Int.reduceEq, Int.reduceNe, Int.reduceLT, Int.reduceLE, Nat.reduceEqDiff, Nat.reduceAdd, Nat.reduceMul, Nat.reduceLT, Nat.reduceLeDiff, Nat.reduceSub, reduceCtorEq, reduceIte, Int.reduceToNat, catV, entsV, grpsV, entV, entC, grpC, beq_self_eq_true, Bool.and_self]
    refine vwp_seq_k fun N hN => ?_
    refine vwp_seq_k fun Na hNa => vreg tt_ok hF rfl ?_; simp only [go_sem, Int.reduceEq, Int.reduceNe, Int.reduceLT, Int.reduceLE, Nat.reduceEqDiff, Nat.reduceAdd, Nat.reduceMul, Nat.reduceLT, Nat.reduceLeDiff, Nat.reduceSub, reduceCtorEq, reduceIte, Int.reduceToNat, catV, entsV, grpsV, entV, entC, grpC, beq_self_eq_true, Bool.and_self]
    refine hNa _ (VWp.keep [12,49] [] ?_); simp only [go_sem, Int.reduceEq, Int.reduceNe, Int.reduceLT, Int.reduceLE, Nat.reduceEqDiff, Nat.reduceAdd, Nat.reduceMul, Nat.reduceLT, Nat.reduceLeDiff, Nat.reduceSub, reduceCtorEq, reduceIte, Int.reduceToNat, catV, entsV, grpsV, entV, entC, grpC, beq_self_eq_true, Bool.and_self]
    refine vif rfl ⟨fun _ => ?_, fun hf => (by cases hf)⟩
    refine vwp_seq_k fun Nb hNb => vreg tt_ok hF rfl ?_; simp only [go_sem, Int.reduceEq, Int.reduceNe, Int.reduceLT, Int.reduceLE, Nat.reduceEqDiff, Nat.reduceAdd, Nat.reduceMul, Nat.reduceLT, Nat.reduceLeDiff, Nat.reduceSub, reduceCtorEq, reduceIte, Int.reduceToNat, catV, entsV, grpsV, entV, entC, grpC, beq_self_eq_true, Bool.and_self]
    refine hNb _ (vwp_ret ?_)
    simp only [go_sem, Int.reduceEq, Int.reduceNe, Int.reduceLT, Int.reduceLE, Nat.reduceEqDiff, Nat.reduceAdd, Nat.reduceMul, Nat.reduceLT, Nat.reduceLeDiff, Nat.reduceSub, reduceCtorEq, reduceIte, Int.reduceToNat, catV, entsV, grpsV, entV, entC, grpC, beq_self_eq_true, Bool.and_self]
    exact LeV.refl _
  refine .inl ⟨_, Define_at (c := makeS l) (s := B) (l := most) hdef, ?_⟩; try simp only [go_sem, Int.reduceEq, Int.reduceNe, Int.reduceLT, Int.reduceLE, Nat.reduceEqDiff, Nat.reduceAdd, Nat.reduceMul, Nat.reduceLT, Nat.reduceLeDiff, Nat.reduceSub, reduceCtorEq, reduceIte, Int.reduceToNat, catV, entsV, grpsV, entV, entC, grpC, beq_self_eq_true, Bool.and_self]
  refine hN _ (VWp.keep [2,9,10,11,12] [11] ?_); simp only [go_sem, Int.reduceEq, Int.reduceNe, Int.reduceLT, Int.reduceLE, Nat.reduceEqDiff, Nat.reduceAdd, Nat.reduceMul, Nat.reduceLT, Nat.reduceLeDiff, Nat.reduceSub, reduceCtorEq, reduceIte, Int.reduceToNat, catV, entsV, grpsV, entV, entC, grpC, beq_self_eq_true, Bool.and_self]
  refine vwp_seq_k fun N hN => ?_
  refine vwp_seq_k fun Na hNa => vreg tt_ok hF rfl ?_; simp only [go_sem, Int.reduceEq, Int.reduceNe, Int.reduceLT, Int.reduceLE, Nat.reduceEqDiff, Nat.reduceAdd, Nat.reduceMul, Nat.reduceLT, Nat.reduceLeDiff, Nat.reduceSub, reduceCtorEq, reduceIte, Int.reduceToNat, catV, entsV, grpsV, entV, entC, grpC, beq_self_eq_true, Bool.and_self]
  refine hNa _ (VWp.keep [2,9,10,11,12,49] [11] ?_); simp only [go_sem, Int.reduceEq, Int.reduceNe, Int.reduceLT, Int.reduceLE, Nat.reduceEqDiff, Nat.reduceAdd, Nat.reduceMul, Nat.reduceLT, Nat.reduceLeDiff, Nat.reduceSub, reduceCtorEq, reduceIte, Int.reduceToNat, catV, entsV, grpsV, entV, entC, grpC, beq_self_eq_true, Bool.and_self]
  refine vif rfl ⟨fun hf => (by cases hf), fun _ => ?_⟩
  refine vwp_skip (hN _ ?_)
  refine vwp_seq_k fun N hN => ?_
  refine vwp_seq_k fun Na hNa => vreg tt_ok hF rfl ?_; simp only [go_sem, Int.reduceEq, Int.reduceNe, Int.reduceLT, Int.reduceLE, Nat.reduceEqDiff, Nat.reduceAdd, Nat.reduceMul, Nat.reduceLT, Nat.reduceLeDiff, Nat.reduceSub, reduceCtorEq, reduceIte, Int.reduceToNat, catV, entsV, grpsV, entV, entC, grpC, beq_self_eq_true, Bool.and_self]
  refine hNa _ (VWp.keep [2,9,10,11,13] [11] ?_); simp only [go_sem, Int.reduceEq, Int.reduceNe, Int.reduceLT, Int.reduceLE, Nat.reduceEqDiff, Nat.reduceAdd, Nat.reduceMul, Nat.reduceLT, Nat.reduceLeDiff, Nat.reduceSub, reduceCtorEq, reduceIte, Int.reduceToNat, catV, entsV, grpsV, entV, entC, grpC, beq_self_eq_true, Bool.and_self]
  have hm1 : 1 ≤ most := by omega
  have hm2 : most ≤ 12 := by omega
  refine vwp_block (vloop (fun z : Nat × Cat => [(2, .int .u8 (many : Int)), (9, .str B), (10, .int .i64 (most : Int)), (11, .ptr 11 0), (13, .int .i64 ((z.1 + 1 : Nat) : Int))])
    (fun z => [(11, .box 36 [.sl 4 (z.2.es.map entC), .sl 2 (z.2.gs.map grpC)])])
    (fun z => z.1 ≤ 30 ∧ GenInv B most z.1 z.2) (fun z => 30 - z.1) (0, d0) ⟨by omega, hinv0⟩ (by simp only [go_sem, Int.reduceEq, Int.reduceNe, Int.reduceLT, Int.reduceLE, Nat.reduceEqDiff, Nat.reduceAdd, Nat.reduceMul, Nat.reduceLT, Nat.reduceLeDiff, Nat.reduceSub, reduceCtorEq, reduceIte, Int.reduceToNat, catV, entsV, grpsV, entV, entC, grpC, beq_self_eq_true, Bool.and_self]) ?_)
  rintro ⟨n, c⟩ ⟨hn30, hinv⟩
  have hn30 : n ≤ 30 := hn30
  have hinv : GenInv B most n c := hinv
  refine vwp_seq_k fun Nb hNb => ?_
  refine vwp_seq_k fun Nc hNc => vreg tt_ok hF rfl ?_; simp only [go_sem, Int.reduceEq, Int.reduceNe, Int.reduceLT, Int.reduceLE, Nat.reduceEqDiff, Nat.reduceAdd, Nat.reduceMul, Nat.reduceLT, Nat.reduceLeDiff, Nat.reduceSub, reduceCtorEq, reduceIte, Int.reduceToNat, catV, entsV, grpsV, entV, entC, grpC, beq_self_eq_true, Bool.and_self, nmany many h2]
  refine hNc _ (VWp.keep [2,9,10,11,13,56] [11] ?_); simp only [go_sem, Int.reduceEq, Int.reduceNe, Int.reduceLT, Int.reduceLE, Nat.reduceEqDiff, Nat.reduceAdd, Nat.reduceMul, Nat.reduceLT, Nat.reduceLeDiff, Nat.reduceSub, reduceCtorEq, reduceIte, Int.reduceToNat, catV, entsV, grpsV, entV, entC, grpC, beq_self_eq_true, Bool.and_self]
  refine vif rfl ⟨fun ht => ?_, fun hf => ?_⟩
  · have hlt : n + 1 ≤ many % 30 := by have := of_decide_eq_true ht; omega
    have hnm : n < 29 := by omega
    obtain ⟨d, hadd, hinvd⟩ := hinv.next hm1 (by omega) b1 b2 b3
    have hvd := hinvd.valid
    refine vwp_skip (hNb _ ?_)
    refine vwp_seq_k fun Nd hNd => ?_
    refine vwp_block ?_
    refine vwp_seq_k fun Ne hNe => vreg tt_ok hF rfl ?_; simp only [go_sem, Int.reduceEq, Int.reduceNe, Int.reduceLT, Int.reduceLE, Nat.reduceEqDiff, Nat.reduceAdd, Nat.reduceMul, Nat.reduceLT, Nat.reduceLeDiff, Nat.reduceSub, reduceCtorEq, reduceIte, Int.reduceToNat, catV, entsV, grpsV, entV, entC, grpC, beq_self_eq_true, Bool.and_self]
    refine .inl ⟨_, Resolve_spec c B 1 (by omega) (by omega), ?_⟩; try simp only [go_sem, Int.reduceEq, Int.reduceNe, Int.reduceLT, Int.reduceLE, Nat.reduceEqDiff, Nat.reduceAdd, Nat.reduceMul, Nat.reduceLT, Nat.reduceLeDiff, Nat.reduceSub, reduceCtorEq, reduceIte, Int.reduceToNat, catV, entsV, grpsV, entV, entC, grpC, beq_self_eq_true, Bool.and_self]
    rw [hinv.resolve_next hm1 (by omega)]
    simp only [go_sem, Int.reduceEq, Int.reduceNe, Int.reduceLT, Int.reduceLE, Nat.reduceEqDiff, Nat.reduceAdd, Nat.reduceMul, Nat.reduceLT, Nat.reduceLeDiff, Nat.reduceSub, reduceCtorEq, reduceIte, Int.reduceToNat, catV, entsV, grpsV, entV, entC, grpC, beq_self_eq_true, Bool.and_self]
    refine hNe _ (VWp.keep [2,9,10,11,13,14,15] [11] ?_); simp only [go_sem, Int.reduceEq, Int.reduceNe, Int.reduceLT, Int.reduceLE, Nat.reduceEqDiff, Nat.reduceAdd, Nat.reduceMul, Nat.reduceLT, Nat.reduceLeDiff, Nat.reduceSub, reduceCtorEq, reduceIte, Int.reduceToNat, catV, entsV, grpsV, entV, entC, grpC, beq_self_eq_true, Bool.and_self]
    refine vwp_seq_k fun Ne hNe => vreg tt_ok hF rfl ?_; simp only [go_sem, Int.reduceEq, Int.reduceNe, Int.reduceLT, Int.reduceLE, Nat.reduceEqDiff, Nat.reduceAdd, Nat.reduceMul, Nat.reduceLT, Nat.reduceLeDiff, Nat.reduceSub, reduceCtorEq, reduceIte, Int.reduceToNat, catV, entsV, grpsV, entV, entC, grpC, beq_self_eq_true, Bool.and_self]
    refine .inl ⟨_, Generation_spec B ((n + 1 : Nat) : Int), ?_⟩; try simp only [go_sem, Int.reduceEq, Int.reduceNe, Int.reduceLT, Int.reduceLE, Nat.reduceEqDiff, Nat.reduceAdd, Nat.reduceMul, Nat.reduceLT, Nat.reduceLeDiff, Nat.reduceSub, reduceCtorEq, reduceIte, Int.reduceToNat, catV, entsV, grpsV, entV, entC, grpC, beq_self_eq_true, Bool.and_self]
    rw [gen_at b2 b3 (by omega) (by omega), Int.toNat_natCast]
    simp only [go_sem, Int.reduceEq, Int.reduceNe, Int.reduceLT, Int.reduceLE, Nat.reduceEqDiff, Nat.reduceAdd, Nat.reduceMul, Nat.reduceLT, Nat.reduceLeDiff, Nat.reduceSub, reduceCtorEq, reduceIte, Int.reduceToNat, catV, entsV, grpsV, entV, entC, grpC, beq_self_eq_true, Bool.and_self]
    refine hNe _ (VWp.keep [2,9,10,11,13,14,15,16] [11] ?_); simp only [go_sem, Int.reduceEq, Int.reduceNe, Int.reduceLT, Int.reduceLE, Nat.reduceEqDiff, Nat.reduceAdd, Nat.reduceMul, Nat.reduceLT, Nat.reduceLeDiff, Nat.reduceSub, reduceCtorEq, reduceIte, Int.reduceToNat, catV, entsV, grpsV, entV, entC, grpC, beq_self_eq_true, Bool.and_self]
    refine vwp_seq_k fun Ne hNe => vregd tt_ok mixed hF rfl (by kernel_rfl) (by kernel_rfl) ?_; simp only [go_sem, Int.reduceEq, Int.reduceNe, Int.reduceLT, Int.reduceLE, Nat.reduceEqDiff, Nat.reduceAdd, Nat.reduceMul, Nat.reduceLT, Nat.reduceLeDiff, Nat.reduceSub, reduceCtorEq, reduceIte, Int.reduceToNat, catV, entsV, grpsV, entV, entC, grpC, beq_self_eq_true, Bool.and_self]
    refine .inl ⟨_, disk_spec (genName B (n + 1)), ?_⟩; try simp only [go_sem, Int.reduceEq, Int.reduceNe, Int.reduceLT, Int.reduceLE, Nat.reduceEqDiff, Nat.reduceAdd, Nat.reduceMul, Nat.reduceLT, Nat.reduceLeDiff, Nat.reduceSub, reduceCtorEq, reduceIte, Int.reduceToNat, catV, entsV, grpsV, entV, entC, grpC, beq_self_eq_true, Bool.and_self]
    refine .inl ⟨_, Add_at (c := c) (e := diskS (genName B (n + 1))) hadd, ?_⟩; try simp only [go_sem, Int.reduceEq, Int.reduceNe, Int.reduceLT, Int.reduceLE, Nat.reduceEqDiff, Nat.reduceAdd, Nat.reduceMul, Nat.reduceLT, Nat.reduceLeDiff, Nat.reduceSub, reduceCtorEq, reduceIte, Int.reduceToNat, catV, entsV, grpsV, entV, entC, grpC, beq_self_eq_true, Bool.and_self]
    refine hNe _ (VWp.keep [2,9,10,11,13,14,15,16,18,19,20] [11,18] ?_); simp only [go_sem, Int.reduceEq, Int.reduceNe, Int.reduceLT, Int.reduceLE, Nat.reduceEqDiff, Nat.reduceAdd, Nat.reduceMul, Nat.reduceLT, Nat.reduceLeDiff, Nat.reduceSub, reduceCtorEq, reduceIte, Int.reduceToNat, catV, entsV, grpsV, entV, entC, grpC, beq_self_eq_true, Bool.and_self]
    refine vwp_seq_k fun Ne hNe => ?_
    refine vwp_seq_k fun Nf hNf => vreg tt_ok hF rfl ?_; simp only [go_sem, Int.reduceEq, Int.reduceNe, Int.reduceLT, Int.reduceLE, Nat.reduceEqDiff, Nat.reduceAdd, Nat.reduceMul, Nat.reduceLT, Nat.reduceLeDiff, Nat.reduceSub, reduceCtorEq, reduceIte, Int.reduceToNat, catV, entsV, grpsV, entV, entC, grpC, beq_self_eq_true, Bool.and_self]
    refine .inl ⟨_, Check_at (c := d) (k := 0) (by rw [hvd]; rfl), ?_⟩; try simp only [go_sem, Int.reduceEq, Int.reduceNe, Int.reduceLT, Int.reduceLE, Nat.reduceEqDiff, Nat.reduceAdd, Nat.reduceMul, Nat.reduceLT, Nat.reduceLeDiff, Nat.reduceSub, reduceCtorEq, reduceIte, Int.reduceToNat, catV, entsV, grpsV, entV, entC, grpC, beq_self_eq_true, Bool.and_self]
    refine hNf _ (VWp.keep [2,9,10,11,13,18,19,94] [11,18] ?_); simp only [go_sem, Int.reduceEq, Int.reduceNe, Int.reduceLT, Int.reduceLE, Nat.reduceEqDiff, Nat.reduceAdd, Nat.reduceMul, Nat.reduceLT, Nat.reduceLeDiff, Nat.reduceSub, reduceCtorEq, reduceIte, Int.reduceToNat, catV, entsV, grpsV, entV, entC, grpC, beq_self_eq_true, Bool.and_self]
    refine vif rfl ⟨fun hf => (by cases hf), fun _ => ?_⟩
    refine vwp_skip (hNe _ ?_)
    have hws : IntKind.i64.wrap (((n + 1 : Nat) : Int) - (most : Int)) = ((n + 1 : Nat) : Int) - (most : Int) := wrap_i64 (by omega) (by omega)
    refine vwp_seq_k fun Ne hNe => vreg tt_ok hF rfl ?_; simp only [go_sem, Int.reduceEq, Int.reduceNe, Int.reduceLT, Int.reduceLE, Nat.reduceEqDiff, Nat.reduceAdd, Nat.reduceMul, Nat.reduceLT, Nat.reduceLeDiff, Nat.reduceSub, reduceCtorEq, reduceIte, Int.reduceToNat, catV, entsV, grpsV, entV, entC, grpC, beq_self_eq_true, Bool.and_self, hws]
    refine .inl ⟨_, Generation_spec B (((n + 1 : Nat) : Int) - (most : Int)), ?_⟩; try simp only [go_sem, Int.reduceEq, Int.reduceNe, Int.reduceLT, Int.reduceLE, Nat.reduceEqDiff, Nat.reduceAdd, Nat.reduceMul, Nat.reduceLT, Nat.reduceLeDiff, Nat.reduceSub, reduceCtorEq, reduceIte, Int.reduceToNat, catV, entsV, grpsV, entV, entC, grpC, beq_self_eq_true, Bool.and_self]
    refine hNe _ (VWp.keep [2,9,10,11,13,18,19,21] [11,18] ?_); simp only [go_sem, Int.reduceEq, Int.reduceNe, Int.reduceLT, Int.reduceLE, Nat.reduceEqDiff, Nat.reduceAdd, Nat.reduceMul, Nat.reduceLT, Nat.reduceLeDiff, Nat.reduceSub, reduceCtorEq, reduceIte, Int.reduceToNat, catV, entsV, grpsV, entV, entC, grpC, beq_self_eq_true, Bool.and_self]
    refine vwp_seq_k fun Ne hNe => ?_
    refine vmeet (fun _ : Unit => [(2, .int .u8 (many : Int)), (9, .str B), (10, .int .i64 (most : Int)), (11, .ptr 11 0), (13, .int .i64 ((n + 1 : Nat) : Int)), (18, .ptr 18 0), (122, .bool false)])
      (fun _ => [(11, .box 36 [.sl 4 (c.es.map entC), .sl 2 (c.gs.map grpC)]), (18, .box 36 [.sl 4 (d.es.map entC), .sl 2 (d.gs.map grpC)])]) (fun _ => True) ?_ ?_
    · by_cases hgt : most < n + 1
      · have f1 : decide ((most : Int) < ((n + 1 : Nat) : Int)) = true := decide_eq_true (by omega)
        have hg2 : genS B (((n + 1 : Nat) : Int) - (most : Int)) = (genName B (n + 1 - most), true) := by
          rw [gen_at b2 b3 (by omega) (by omega)]; congr 2; omega
        rw [if_pos (show n + 1 > most from hgt), hg2]
        refine vregd tt_ok mixed hF rfl (by kernel_rfl) (by kernel_rfl) ?_; simp only [go_sem, Int.reduceEq, Int.reduceNe, Int.reduceLT, Int.reduceLE, Nat.reduceEqDiff, Nat.reduceAdd, Nat.reduceMul, Nat.reduceLT, Nat.reduceLeDiff, Nat.reduceSub, reduceCtorEq, reduceIte, Int.reduceToNat, catV, entsV, grpsV, entV, entC, grpC, beq_self_eq_true, Bool.and_self, f1, diskS, beq_self_eq_true]
        refine .inl ⟨_, disk_spec (genName B (n + 1 - most)), ?_⟩; try simp only [go_sem, Int.reduceEq, Int.reduceNe, Int.reduceLT, Int.reduceLE, Nat.reduceEqDiff, Nat.reduceAdd, Nat.reduceMul, Nat.reduceLT, Nat.reduceLeDiff, Nat.reduceSub, reduceCtorEq, reduceIte, Int.reduceToNat, catV, entsV, grpsV, entV, entC, grpC, beq_self_eq_true, Bool.and_self]
        exact ⟨(), trivial⟩
      · have f1 : decide ((most : Int) < ((n + 1 : Nat) : Int)) = false := decide_eq_false (by omega)
        rw [if_neg (show ¬ n + 1 > most from hgt)]
        refine vregd tt_ok mixed hF rfl (by kernel_rfl) (by kernel_rfl) ?_; simp only [go_sem, Int.reduceEq, Int.reduceNe, Int.reduceLT, Int.reduceLE, Nat.reduceEqDiff, Nat.reduceAdd, Nat.reduceMul, Nat.reduceLT, Nat.reduceLeDiff, Nat.reduceSub, reduceCtorEq, reduceIte, Int.reduceToNat, catV, entsV, grpsV, entV, entC, grpC, beq_self_eq_true, Bool.and_self, f1, beq_self_eq_true]
        exact ⟨(), by simp⟩
    intro _ _
    refine vif rfl ⟨fun hf => (by cases hf), fun _ => ?_⟩
    refine vwp_skip (hNe _ ?_)
    refine vwp_seq_k fun Ne hNe => vreg tt_ok hF rfl ?_; simp only [go_sem, Int.reduceEq, Int.reduceNe, Int.reduceLT, Int.reduceLE, Nat.reduceEqDiff, Nat.reduceAdd, Nat.reduceMul, Nat.reduceLT, Nat.reduceLeDiff, Nat.reduceSub, reduceCtorEq, reduceIte, Int.reduceToNat, catV, entsV, grpsV, entV, entC, grpC, beq_self_eq_true, Bool.and_self]
    refine hNe _ (VWp.keep [2,9,10,11,13] [11] ?_); simp only [go_sem, Int.reduceEq, Int.reduceNe, Int.reduceLT, Int.reduceLE, Nat.reduceEqDiff, Nat.reduceAdd, Nat.reduceMul, Nat.reduceLT, Nat.reduceLeDiff, Nat.reduceSub, reduceCtorEq, reduceIte, Int.reduceToNat, catV, entsV, grpsV, entV, entC, grpC, beq_self_eq_true, Bool.and_self]
    refine vwp_seq_k fun Ne hNe => vreg tt_ok hF rfl ?_; simp only [go_sem, Int.reduceEq, Int.reduceNe, Int.reduceLT, Int.reduceLE, Nat.reduceEqDiff, Nat.reduceAdd, Nat.reduceMul, Nat.reduceLT, Nat.reduceLeDiff, Nat.reduceSub, reduceCtorEq, reduceIte, Int.reduceToNat, catV, entsV, grpsV, entV, entC, grpC, beq_self_eq_true, Bool.and_self]
    refine hNe _ (VWp.keep [2,9,10,11,13,23] [11] ?_); simp only [go_sem, Int.reduceEq, Int.reduceNe, Int.reduceLT, Int.reduceLE, Nat.reduceEqDiff, Nat.reduceAdd, Nat.reduceMul, Nat.reduceLT, Nat.reduceLeDiff, Nat.reduceSub, reduceCtorEq, reduceIte, Int.reduceToNat, catV, entsV, grpsV, entV, entC, grpC, beq_self_eq_true, Bool.and_self]
    refine vwp_block (vloop (fun k : Nat => [(2, .int .u8 (many : Int)), (9, .str B), (10, .int .i64 (most : Int)), (11, .ptr 11 0), (13, .int .i64 ((n + 1 : Nat) : Int)), (23, .int .i64 (k : Int))])
      (fun _ => [(11, .box 36 [.sl 4 (d.es.map entC), .sl 2 (d.gs.map grpC)])])
      (fun k => k ≤ most + 1) (fun k => most + 1 - k) 0 (by omega) (by simp only [go_sem, Int.reduceEq, Int.reduceNe, Int.reduceLT, Int.reduceLE, Nat.reduceEqDiff, Nat.reduceAdd, Nat.reduceMul, Nat.reduceLT, Nat.reduceLeDiff, Nat.reduceSub, reduceCtorEq, reduceIte, Int.reduceToNat, catV, entsV, grpsV, entV, entC, grpC, beq_self_eq_true, Bool.and_self]) ?_)
    intro k hk
    refine vwp_seq_k fun Nf hNf => ?_
    refine vwp_seq_k fun Ng hNg => vreg tt_ok hF rfl ?_; simp only [go_sem, Int.reduceEq, Int.reduceNe, Int.reduceLT, Int.reduceLE, Nat.reduceEqDiff, Nat.reduceAdd, Nat.reduceMul, Nat.reduceLT, Nat.reduceLeDiff, Nat.reduceSub, reduceCtorEq, reduceIte, Int.reduceToNat, catV, entsV, grpsV, entV, entC, grpC, beq_self_eq_true, Bool.and_self]
    refine hNg _ (VWp.keep [2,9,10,11,13,23,126] [11] ?_); simp only [go_sem, Int.reduceEq, Int.reduceNe, Int.reduceLT, Int.reduceLE, Nat.reduceEqDiff, Nat.reduceAdd, Nat.reduceMul, Nat.reduceLT, Nat.reduceLeDiff, Nat.reduceSub, reduceCtorEq, reduceIte, Int.reduceToNat, catV, entsV, grpsV, entV, entC, grpC, beq_self_eq_true, Bool.and_self]
    refine vif rfl ⟨fun ht => ?_, fun hf => ?_⟩
    · have hkl : k ≤ most := by have := of_decide_eq_true ht; omega
      have hws2 : IntKind.i64.wrap (((n + 1 : Nat) : Int) - (k : Int)) = ((n + 1 : Nat) : Int) - (k : Int) := wrap_i64 (by omega) (by omega)
      have hwn : IntKind.i64.wrap (0 - (k : Int)) = -(k : Int) := by rw [wrap_i64 (by omega) (by omega)]; omega
      have hold := hinvd.resolve_old k
      refine vwp_skip (hNf _ ?_)
      refine vwp_seq_k fun Ng hNg => ?_
      refine vwp_block ?_
      refine vwp_seq_k fun Nh hNh => vreg tt_ok hF rfl ?_; simp only [go_sem, Int.reduceEq, Int.reduceNe, Int.reduceLT, Int.reduceLE, Nat.reduceEqDiff, Nat.reduceAdd, Nat.reduceMul, Nat.reduceLT, Nat.reduceLeDiff, Nat.reduceSub, reduceCtorEq, reduceIte, Int.reduceToNat, catV, entsV, grpsV, entV, entC, grpC, beq_self_eq_true, Bool.and_self, hws2]
      refine .inl ⟨_, Generation_spec B (((n + 1 : Nat) : Int) - (k : Int)), ?_⟩; try simp only [go_sem, Int.reduceEq, Int.reduceNe, Int.reduceLT, Int.reduceLE, Nat.reduceEqDiff, Nat.reduceAdd, Nat.reduceMul, Nat.reduceLT, Nat.reduceLeDiff, Nat.reduceSub, reduceCtorEq, reduceIte, Int.reduceToNat, catV, entsV, grpsV, entV, entC, grpC, beq_self_eq_true, Bool.and_self]
      refine hNh _ (VWp.keep [2,9,10,11,13,23,24] [11] ?_); simp only [go_sem, Int.reduceEq, Int.reduceNe, Int.reduceLT, Int.reduceLE, Nat.reduceEqDiff, Nat.reduceAdd, Nat.reduceMul, Nat.reduceLT, Nat.reduceLeDiff, Nat.reduceSub, reduceCtorEq, reduceIte, Int.reduceToNat, catV, entsV, grpsV, entV, entC, grpC, beq_self_eq_true, Bool.and_self]
      refine vmeet (fun b : Bool => [(2, .int .u8 (many : Int)), (9, .str B), (10, .int .i64 (most : Int)), (11, .ptr 11 0), (13, .int .i64 ((n + 1 : Nat) : Int)), (23, .int .i64 (k : Int)), (24, .str (genS B (((n + 1 : Nat) : Int) - (k : Int))).1), (26, .bool b)])
        (fun _ => [(11, .box 36 [.sl 4 (d.es.map entC), .sl 2 (d.gs.map grpC)])]) (fun b => b = decide (k < most ∧ k < n + 1)) ?_ ?_
      · by_cases q1 : k < most
        · have f1 : decide ((k : Int) < (most : Int)) = true := decide_eq_true (by omega)
          have f2 : decide ((k : Int) < ((n + 1 : Nat) : Int)) = decide (k < n + 1) := by apply decide_eq_decide.2; omega
          refine vreg tt_ok hF rfl ?_; simp only [go_sem, Int.reduceEq, Int.reduceNe, Int.reduceLT, Int.reduceLE, Nat.reduceEqDiff, Nat.reduceAdd, Nat.reduceMul, Nat.reduceLT, Nat.reduceLeDiff, Nat.reduceSub, reduceCtorEq, reduceIte, Int.reduceToNat, catV, entsV, grpsV, entV, entC, grpC, beq_self_eq_true, Bool.and_self, f1, f2]
          exact ⟨_, rfl, by simp [q1]⟩
        · have f1 : decide ((k : Int) < (most : Int)) = false := decide_eq_false (by omega)
          refine vreg tt_ok hF rfl ?_; simp only [go_sem, Int.reduceEq, Int.reduceNe, Int.reduceLT, Int.reduceLE, Nat.reduceEqDiff, Nat.reduceAdd, Nat.reduceMul, Nat.reduceLT, Nat.reduceLeDiff, Nat.reduceSub, reduceCtorEq, reduceIte, Int.reduceToNat, catV, entsV, grpsV, entV, entC, grpC, beq_self_eq_true, Bool.and_self, f1]
          exact ⟨_, rfl, by simp [q1]⟩
      intro b hb
      have hb : b = decide (k < most ∧ k < n + 1) := hb
      refine vwp_seq_k fun Nh hNh => ?_
      by_cases hq : k < most ∧ k < n + 1
      · rw [if_pos hq] at hold
        rw [decide_eq_true hq] at hb; subst hb
        have hg3 : (genS B (((n + 1 : Nat) : Int) - (k : Int))).1 = genName B (n + 1 - k) := by
          rw [gen_at b2 b3 (by omega) (by omega)]; show genName B _ = _; congr 1; omega
        rw [hg3]
        refine vreg tt_ok hF rfl ?_; simp only [go_sem, Int.reduceEq, Int.reduceNe, Int.reduceLT, Int.reduceLE, Nat.reduceEqDiff, Nat.reduceAdd, Nat.reduceMul, Nat.reduceLT, Nat.reduceLeDiff, Nat.reduceSub, reduceCtorEq, reduceIte, Int.reduceToNat, catV, entsV, grpsV, entV, entC, grpC, beq_self_eq_true, Bool.and_self, hwn]
        refine .inl ⟨_, Resolves_at (c := d) (s := B) (rel := -(k : Int)) hold (by omega) (by omega), ?_⟩; try simp only [go_sem, Int.reduceEq, Int.reduceNe, Int.reduceLT, Int.reduceLE, Nat.reduceEqDiff, Nat.reduceAdd, Nat.reduceMul, Nat.reduceLT, Nat.reduceLeDiff, Nat.reduceSub, reduceCtorEq, reduceIte, Int.reduceToNat, catV, entsV, grpsV, entV, entC, grpC, beq_self_eq_true, Bool.and_self]
        refine hNh _ (VWp.keep [2,9,10,11,13,23,166] [11] ?_); simp only [go_sem, Int.reduceEq, Int.reduceNe, Int.reduceLT, Int.reduceLE, Nat.reduceEqDiff, Nat.reduceAdd, Nat.reduceMul, Nat.reduceLT, Nat.reduceLeDiff, Nat.reduceSub, reduceCtorEq, reduceIte, Int.reduceToNat, catV, entsV, grpsV, entV, entC, grpC, beq_self_eq_true, Bool.and_self]
        refine vif rfl ⟨fun hf => (by cases hf), fun _ => ?_⟩
        refine vwp_skip ?_
        simp only [go_sem, Int.reduceEq, Int.reduceNe, Int.reduceLT, Int.reduceLE, Nat.reduceEqDiff, Nat.reduceAdd, Nat.reduceMul, Nat.reduceLT, Nat.reduceLeDiff, Nat.reduceSub, reduceCtorEq, reduceIte, Int.reduceToNat, catV, entsV, grpsV, entV, entC, grpC, beq_self_eq_true, Bool.and_self]
        refine hNg _ (VWp.keep [2,9,10,11,13,23] [11] ?_); simp only [go_sem, Int.reduceEq, Int.reduceNe, Int.reduceLT, Int.reduceLE, Nat.reduceEqDiff, Nat.reduceAdd, Nat.reduceMul, Nat.reduceLT, Nat.reduceLeDiff, Nat.reduceSub, reduceCtorEq, reduceIte, Int.reduceToNat, catV, entsV, grpsV, entV, entC, grpC, beq_self_eq_true, Bool.and_self]
        refine vreg tt_ok hF rfl ?_; simp only [go_sem, Int.reduceEq, Int.reduceNe, Int.reduceLT, Int.reduceLE, Nat.reduceEqDiff, Nat.reduceAdd, Nat.reduceMul, Nat.reduceLT, Nat.reduceLeDiff, Nat.reduceSub, reduceCtorEq, reduceIte, Int.reduceToNat, catV, entsV, grpsV, entV, entC, grpC, beq_self_eq_true, Bool.and_self]
        rw [wrap_i64 (by omega) (by omega)]
        exact ⟨k + 1, by omega, by omega, by simp⟩
      · rw [if_neg hq] at hold
        rw [decide_eq_false hq] at hb; subst hb
        refine vreg tt_ok hF rfl ?_; simp only [go_sem, Int.reduceEq, Int.reduceNe, Int.reduceLT, Int.reduceLE, Nat.reduceEqDiff, Nat.reduceAdd, Nat.reduceMul, Nat.reduceLT, Nat.reduceLeDiff, Nat.reduceSub, reduceCtorEq, reduceIte, Int.reduceToNat, catV, entsV, grpsV, entV, entC, grpC, beq_self_eq_true, Bool.and_self, hwn]
        refine .inl ⟨_, Resolves_at (c := d) (s := B) (rel := -(k : Int)) hold (by omega) (by omega), ?_⟩; try simp only [go_sem, Int.reduceEq, Int.reduceNe, Int.reduceLT, Int.reduceLE, Nat.reduceEqDiff, Nat.reduceAdd, Nat.reduceMul, Nat.reduceLT, Nat.reduceLeDiff, Nat.reduceSub, reduceCtorEq, reduceIte, Int.reduceToNat, catV, entsV, grpsV, entV, entC, grpC, beq_self_eq_true, Bool.and_self]
        refine hNh _ (VWp.keep [2,9,10,11,13,23,166] [11] ?_); simp only [go_sem, Int.reduceEq, Int.reduceNe, Int.reduceLT, Int.reduceLE, Nat.reduceEqDiff, Nat.reduceAdd, Nat.reduceMul, Nat.reduceLT, Nat.reduceLeDiff, Nat.reduceSub, reduceCtorEq, reduceIte, Int.reduceToNat, catV, entsV, grpsV, entV, entC, grpC, beq_self_eq_true, Bool.and_self]
        refine vif rfl ⟨fun hf => (by cases hf), fun _ => ?_⟩
        refine vwp_skip ?_
        simp only [go_sem, Int.reduceEq, Int.reduceNe, Int.reduceLT, Int.reduceLE, Nat.reduceEqDiff, Nat.reduceAdd, Nat.reduceMul, Nat.reduceLT, Nat.reduceLeDiff, Nat.reduceSub, reduceCtorEq, reduceIte, Int.reduceToNat, catV, entsV, grpsV, entV, entC, grpC, beq_self_eq_true, Bool.and_self]
        refine hNg _ (VWp.keep [2,9,10,11,13,23] [11] ?_); simp only [go_sem, Int.reduceEq, Int.reduceNe, Int.reduceLT, Int.reduceLE, Nat.reduceEqDiff, Nat.reduceAdd, Nat.reduceMul, Nat.reduceLT, Nat.reduceLeDiff, Nat.reduceSub, reduceCtorEq, reduceIte, Int.reduceToNat, catV, entsV, grpsV, entV, entC, grpC, beq_self_eq_true, Bool.and_self]
        refine vreg tt_ok hF rfl ?_; simp only [go_sem, Int.reduceEq, Int.reduceNe, Int.reduceLT, Int.reduceLE, Nat.reduceEqDiff, Nat.reduceAdd, Nat.reduceMul, Nat.reduceLT, Nat.reduceLeDiff, Nat.reduceSub, reduceCtorEq, reduceIte, Int.reduceToNat, catV, entsV, grpsV, entV, entC, grpC, beq_self_eq_true, Bool.and_self]
        rw [wrap_i64 (by omega) (by omega)]
        exact ⟨k + 1, by omega, by omega, by simp⟩
    · refine vwp_exit ?_
      simp only [go_sem, Int.reduceEq, Int.reduceNe, Int.reduceLT, Int.reduceLE, Nat.reduceEqDiff, Nat.reduceAdd, Nat.reduceMul, Nat.reduceLT, Nat.reduceLeDiff, Nat.reduceSub, reduceCtorEq, reduceIte, Int.reduceToNat, catV, entsV, grpsV, entV, entC, grpC, beq_self_eq_true, Bool.and_self]
      refine hNd _ (VWp.keep [2,9,10,11,13] [11] ?_); simp only [go_sem, Int.reduceEq, Int.reduceNe, Int.reduceLT, Int.reduceLE, Nat.reduceEqDiff, Nat.reduceAdd, Nat.reduceMul, Nat.reduceLT, Nat.reduceLeDiff, Nat.reduceSub, reduceCtorEq, reduceIte, Int.reduceToNat, catV, entsV, grpsV, entV, entC, grpC, beq_self_eq_true, Bool.and_self]
      refine vreg tt_ok hF rfl ?_; simp only [go_sem, Int.reduceEq, Int.reduceNe, Int.reduceLT, Int.reduceLE, Nat.reduceEqDiff, Nat.reduceAdd, Nat.reduceMul, Nat.reduceLT, Nat.reduceLeDiff, Nat.reduceSub, reduceCtorEq, reduceIte, Int.reduceToNat, catV, entsV, grpsV, entV, entC, grpC, beq_self_eq_true, Bool.and_self]
      rw [wrap_i64 (by omega) (by omega)]
      refine ⟨(n + 1, d), ⟨by show n + 1 ≤ 30; omega, hinvd⟩, by show 30 - (n + 1) < 30 - n; omega, ?_⟩
      simp only [go_sem, Int.reduceEq, Int.reduceNe, Int.reduceLT, Int.reduceLE, Nat.reduceEqDiff, Nat.reduceAdd, Nat.reduceMul, Nat.reduceLT, Nat.reduceLeDiff, Nat.reduceSub, reduceCtorEq, reduceIte, Int.reduceToNat, catV, entsV, grpsV, entV, entC, grpC, beq_self_eq_true, Bool.and_self]; simp
  · refine vwp_exit ?_
    simp only [go_sem, Int.reduceEq, Int.reduceNe, Int.reduceLT, Int.reduceLE, Nat.reduceEqDiff, Nat.reduceAdd, Nat.reduceMul, Nat.reduceLT, Nat.reduceLeDiff, Nat.reduceSub, reduceCtorEq, reduceIte, Int.reduceToNat, catV, entsV, grpsV, entV, entC, grpC, beq_self_eq_true, Bool.and_self]
    refine hN _ (VWp.keep [] [] ?_); simp only [go_sem, Int.reduceEq, Int.reduceNe, Int.reduceLT, Int.reduceLE, Nat.reduceEqDiff, Nat.reduceAdd, Nat.reduceMul, Nat.reduceLT, Nat.reduceLeDiff, Nat.reduceSub, reduceCtorEq, reduceIte, Int.reduceToNat, catV, entsV, grpsV, entV, entC, grpC, beq_self_eq_true, Bool.and_self]
    refine vwp_seq_k fun Nb hNb => vreg tt_ok hF rfl ?_; simp only [go_sem, Int.reduceEq, Int.reduceNe, Int.reduceLT, Int.reduceLE, Nat.reduceEqDiff, Nat.reduceAdd, Nat.reduceMul, Nat.reduceLT, Nat.reduceLeDiff, Nat.reduceSub, reduceCtorEq, reduceIte, Int.reduceToNat, catV, entsV, grpsV, entV, entC, grpC, beq_self_eq_true, Bool.and_self]
    refine hNb _ (vwp_ret ?_)
    simp only [go_sem, Int.reduceEq, Int.reduceNe, Int.reduceLT, Int.reduceLE, Nat.reduceEqDiff, Nat.reduceAdd, Nat.reduceMul, Nat.reduceLT, Nat.reduceLeDiff, Nat.reduceSub, reduceCtorEq, reduceIte, Int.reduceToNat, catV, entsV, grpsV, entV, entC, grpC, beq_self_eq_true, Bool.and_self]
    exact LeV.refl _
theorem CatalogGenerations_in (w : World) (v : Value) (l : List OpS) (hl : ∀ o ∈ l, OpOk o) (hn : l.length ≤ 9223372036854775807) (hv : Rep (S0 (fun _ _ => False) w) (.sl 5 (l.map opC)) v) (lim many wh : Nat) (h1 : lim < 256) (h2 : many < 256) (h3 : wh < 256) :
    Calls Tryd.prog 4 #[v, .int .u8 (lim : Int), .int .u8 (many : Int), .int .u8 (wh : Int)] w fun e w' => e = .returned (.bool true) ∧ Chg [] w w' :=
  spec_true (CatalogGenerations_spec l hl hn lim many wh h1 h2 h3) (vs := [v, .int .u8 (lim : Int), .int .u8 (many : Int), .int .u8 (wh : Int)]) w ⟨_, _, rfl, hv, _, _, rfl, rfl, _, _, rfl, rfl, _, _, rfl, rfl, rfl⟩
end Go.Proofs.YtldkmclfhjcicaaDoor

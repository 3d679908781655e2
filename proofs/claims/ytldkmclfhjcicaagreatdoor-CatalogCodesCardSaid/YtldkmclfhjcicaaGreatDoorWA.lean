import Derived.Outline
import Derived.Test.YtldkmclfhjcicaaGreatDoorVP
import Derived.Test.YtldkmclfhjcicaaGreatDoorBr
/- The reference's with, Find, Valid. -/
namespace Go.Proofs.YtldkmclfhjcicaaGreatDoor
open Go.RowKit
set_option linter.unusedVariables false
set_option linter.unusedSimpArgs false
theorem getD_map {α β : Type} (l : List α) (f : α → β) (k : Nat) (x : α) (y : β) (h : l[k]? = some x) : (l.map f).getD k y = f x := by simp [h]
theorem ent_snoc (L : List Ent) (x : Ent) : L.map entC ++ [[.str x.name, .int .i64 x.unit, .str x.serial, .int .i64 x.file]] = (L ++ [x]).map entC := by rw [List.map_append]; rfl
theorem grp_snoc (L : List Grp) (x : Grp) : L.map grpC ++ [[.str x.base, .int .i64 x.limit]] = (L ++ [x]).map grpC := by rw [List.map_append]; rfl
theorem insE_le (e : Ent) (l : List Ent) : (insE e l).length ≤ l.length + 1 := by rw [length_insE]; omega
theorem wiS_len (e : Ent) (es : List Ent) (k : Nat) : (wiS e es k).length ≤ es.length + 1 := by
  unfold wiS
  have : (es.take k).length ≤ es.length := by simp; omega
  split
  · rw [length_insE]; omega
  · omega
set_option maxHeartbeats 4000000 in
set_option maxRecDepth 4000 in
theorem with_spec (c : Cat) (e : Ent) (h1 : c.es.length ≤ 1000000) (h2 : c.gs.length ≤ 1000000) : Spec Tryz.prog 64 [catV c, entV e] (catV ⟨insE e c.es, c.gs⟩) := by
  unfold catV entsV grpsV entV
  refine spec_of tt_ok Tryz.func64 rfl (by decide) Tryz.ntmps64 (congrArg Array.toList Tryz.results64) (by simp) (by decide) rfl rfl (fun F hF => ?_)
  refine vwp_seq_k fun N hN => vreg tt_ok hF rfl ?_; simp only [go_sem, Int.reduceEq, Int.reduceNe, Int.reduceLT, Int.reduceLE, Nat.reduceEqDiff, Nat.reduceAdd, Nat.reduceMul, Nat.reduceLT, Nat.reduceLeDiff, Nat.reduceSub, reduceCtorEq, reduceIte, Int.reduceToNat]
  refine hN _ (VWp.keepR [2,3,4] [2,3,4] tt_ok hF rfl fun N hN => ?_); simp only [go_sem, Int.reduceEq, Int.reduceNe, Int.reduceLT, Int.reduceLE, Nat.reduceEqDiff, Nat.reduceAdd, Nat.reduceMul, Nat.reduceLT, Nat.reduceLeDiff, Nat.reduceSub, reduceCtorEq, reduceIte, Int.reduceToNat]
  refine ⟨by omega, ?_⟩
  refine hN _ (VWp.keepR [2,3,4,5] [2,3,4,5,8] tt_ok hF rfl fun N hN => ?_); simp only [go_sem, Int.reduceEq, Int.reduceNe, Int.reduceLT, Int.reduceLE, Nat.reduceEqDiff, Nat.reduceAdd, Nat.reduceMul, Nat.reduceLT, Nat.reduceLeDiff, Nat.reduceSub, reduceCtorEq, reduceIte, Int.reduceToNat]
  refine hN _ (VWp.keep [2,3,4,5,6] [2,3,4,5,8] ?_); simp only [go_sem, Int.reduceEq, Int.reduceNe, Int.reduceLT, Int.reduceLE, Nat.reduceEqDiff, Nat.reduceAdd, Nat.reduceMul, Nat.reduceLT, Nat.reduceLeDiff, Nat.reduceSub, reduceCtorEq, reduceIte, Int.reduceToNat]
  refine vwp_seq_k fun N hN => ?_
  refine vwp_seq_k fun Na hNa => vreg tt_ok hF rfl ?_; simp only [go_sem, Int.reduceEq, Int.reduceNe, Int.reduceLT, Int.reduceLE, Nat.reduceEqDiff, Nat.reduceAdd, Nat.reduceMul, Nat.reduceLT, Nat.reduceLeDiff, Nat.reduceSub, reduceCtorEq, reduceIte, Int.reduceToNat]
  refine hNa _ (VWp.keep [2,3,4,5,6,7] [2,3,4,5,8] ?_); simp only [go_sem, Int.reduceEq, Int.reduceNe, Int.reduceLT, Int.reduceLE, Nat.reduceEqDiff, Nat.reduceAdd, Nat.reduceMul, Nat.reduceLT, Nat.reduceLeDiff, Nat.reduceSub, reduceCtorEq, reduceIte, Int.reduceToNat]
  refine VWp.adoptB 30 4 45 (o := 5) (i := 0) rfl rfl rfl (by decide) ?_
  refine VWp.keep [2,3,4,5,6,7] [2,3,4,5,8,30] ?_; simp only [go_sem, Int.reduceEq, Int.reduceNe, Int.reduceLT, Int.reduceLE, Nat.reduceEqDiff, Nat.reduceAdd, Nat.reduceMul, Nat.reduceLT, Nat.reduceLeDiff, Nat.reduceSub, reduceCtorEq, reduceIte, Int.reduceToNat]
  refine vwp_block (vloop (fun k : Nat => [(2, .ptr 2 0), (3, .ptr 3 0), (4, .ptr 4 0), (5, .ptr 5 0), (6, .bool (wiD e c.es k)), (7, .int .i64 (k : Int))])
    (fun k => [(2, .box 31 [.sl 4 (c.es.map entC), .sl 2 (c.gs.map grpC)]), (3, .box 45 [.str e.name, .int .i64 e.unit, .str e.serial, .int .i64 e.file]), (4, .box 31 [.nil, .nil]), (5, .box 31 [.own 30 (wiS e c.es k).length, .own 8 c.gs.length]), (8, .arr 2 47 (c.gs.map grpC)), (30, .arr 4 45 ((wiS e c.es k).map entC))])
    (fun k => k ≤ c.es.length) (fun k => c.es.length - k) 0 (by omega) (by simp only [go_sem, Int.reduceEq, Int.reduceNe, Int.reduceLT, Int.reduceLE, Nat.reduceEqDiff, Nat.reduceAdd, Nat.reduceMul, Nat.reduceLT, Nat.reduceLeDiff, Nat.reduceSub, reduceCtorEq, reduceIte, Int.reduceToNat, entC]; simp [wiD_zero, wiS_zero]) ?_)
  intro k hk
  refine vwp_seq_k fun Nb hNb => ?_
  refine vwp_seq_k fun Nc hNc => vreg tt_ok hF rfl ?_; simp only [go_sem, Int.reduceEq, Int.reduceNe, Int.reduceLT, Int.reduceLE, Nat.reduceEqDiff, Nat.reduceAdd, Nat.reduceMul, Nat.reduceLT, Nat.reduceLeDiff, Nat.reduceSub, reduceCtorEq, reduceIte, Int.reduceToNat]
  refine hNc _ (VWp.keep [2,3,4,5,6,7,17] [2,3,4,5,8,30] ?_); simp only [go_sem, Int.reduceEq, Int.reduceNe, Int.reduceLT, Int.reduceLE, Nat.reduceEqDiff, Nat.reduceAdd, Nat.reduceMul, Nat.reduceLT, Nat.reduceLeDiff, Nat.reduceSub, reduceCtorEq, reduceIte, Int.reduceToNat]
  refine vif rfl ⟨fun ht => ?_, fun hf => ?_⟩
  · have hlt : k < c.es.length := by simpa using ht
    obtain ⟨x, hx⟩ : ∃ x, c.es[k]? = some x := ⟨_, List.getElem?_eq_getElem hlt⟩
    have hxe : c.es.getD k default = x := by simp [hx]
    have hrow : (c.es.map entC).getD k [] = [.str x.name, .int .i64 x.unit, .str x.serial, .int .i64 x.file] := getD_map c.es entC k x [] hx
    refine vwp_skip (hNb _ ?_)
    refine vwp_seq_k fun Nd hNd => ?_
    refine vwp_block ?_
    refine vmeet (fun z : List Ent × Bool => [(2, .ptr 2 0), (3, .ptr 3 0), (4, .ptr 4 0), (5, .ptr 5 0), (6, .bool z.2), (7, .int .i64 (k : Int))])
      (fun z => [(2, .box 31 [.sl 4 (c.es.map entC), .sl 2 (c.gs.map grpC)]), (3, .box 45 [.str e.name, .int .i64 e.unit, .str e.serial, .int .i64 e.file]), (4, .box 31 [.nil, .nil]), (5, .box 31 [.own 30 z.1.length, .own 8 c.gs.length]), (8, .arr 2 47 (c.gs.map grpC)), (30, .arr 4 45 (z.1.map entC))])
      (fun z => z.1.length ≤ 1000002 ∧ z.1 ++ [x] = wiS e c.es (k + 1) ∧ z.2 = wiD e c.es (k + 1)) ?_ ?_
    · refine vwp_seq_k fun Nf hNf => ?_
      have hwl : (wiS e c.es k).length ≤ 1000001 := Nat.le_trans (wiS_len e c.es k) (by omega)
      cases hd : wiD e c.es k with
      | true =>
        refine vregd tt_ok mixed hF rfl (by kernel_rfl) (by kernel_rfl) ?_; simp only [go_sem, Int.reduceEq, Int.reduceNe, Int.reduceLT, Int.reduceLE, Nat.reduceEqDiff, Nat.reduceAdd, Nat.reduceMul, Nat.reduceLT, Nat.reduceLeDiff, Nat.reduceSub, reduceCtorEq, reduceIte, Int.reduceToNat]
        refine hNf _ (VWp.keep [2,3,4,5,6,7,32] [2,3,4,5,8,30] ?_); simp only [go_sem, Int.reduceEq, Int.reduceNe, Int.reduceLT, Int.reduceLE, Nat.reduceEqDiff, Nat.reduceAdd, Nat.reduceMul, Nat.reduceLT, Nat.reduceLeDiff, Nat.reduceSub, reduceCtorEq, reduceIte, Int.reduceToNat]
        refine vif rfl ⟨fun ht => (by cases ht), fun _ => ?_⟩
        refine vwp_skip ⟨(wiS e c.es k, true), ⟨Nat.le_succ_of_le hwl, ?_, ?_⟩, ?_⟩
        · rw [wiS_old hlt (.inl hd), hxe]
        · rw [wiD_step hlt, hd]; rfl
        · simp only [go_sem, Int.reduceEq, Int.reduceNe, Int.reduceLT, Int.reduceLE, Nat.reduceEqDiff, Nat.reduceAdd, Nat.reduceMul, Nat.reduceLT, Nat.reduceLeDiff, Nat.reduceSub, reduceCtorEq, reduceIte, Int.reduceToNat]
      | false =>
        refine vregd tt_ok mixed hF rfl (by kernel_rfl) (by kernel_rfl) ?_; simp only [go_sem, Int.reduceEq, Int.reduceNe, Int.reduceLT, Int.reduceLE, Nat.reduceEqDiff, Nat.reduceAdd, Nat.reduceMul, Nat.reduceLT, Nat.reduceLeDiff, Nat.reduceSub, reduceCtorEq, reduceIte, Int.reduceToNat]
        simp only [hrow, go_sem, Int.reduceEq, Int.reduceNe, Int.reduceLT, Int.reduceLE, Nat.reduceEqDiff, Nat.reduceAdd, Nat.reduceMul, Nat.reduceLT, Nat.reduceLeDiff, Nat.reduceSub, reduceCtorEq, reduceIte, Int.reduceToNat]
        refine ⟨⟨by omega, by omega⟩, ?_⟩
        refine hNf _ (VWp.keep [2,3,4,5,6,7,32] [2,3,4,5,8,30] ?_); simp only [go_sem, Int.reduceEq, Int.reduceNe, Int.reduceLT, Int.reduceLE, Nat.reduceEqDiff, Nat.reduceAdd, Nat.reduceMul, Nat.reduceLT, Nat.reduceLeDiff, Nat.reduceSub, reduceCtorEq, reduceIte, Int.reduceToNat]
        rw [bytesLess_eq]
        refine vif rfl ⟨fun ht => ?_, fun hf => ?_⟩
        · have hlt2 : e.name < x.name := of_decide_eq_true ht
          refine vwp_seq_k fun Nh hNh => vreg tt_ok hF rfl ?_; simp only [go_sem, Int.reduceEq, Int.reduceNe, Int.reduceLT, Int.reduceLE, Nat.reduceEqDiff, Nat.reduceAdd, Nat.reduceMul, Nat.reduceLT, Nat.reduceLeDiff, Nat.reduceSub, reduceCtorEq, reduceIte, Int.reduceToNat]
          refine ⟨by omega, ?_⟩
          simp only [ent_snoc, go_sem, Int.reduceEq, Int.reduceNe, Int.reduceLT, Int.reduceLE, Nat.reduceEqDiff, Nat.reduceAdd, Nat.reduceMul, Nat.reduceLT, Nat.reduceLeDiff, Nat.reduceSub, reduceCtorEq, reduceIte, Int.reduceToNat]
          refine hNh _ (VWp.keep [2,3,4,5,6,7] [2,3,4,5,8,30] ?_); simp only [go_sem, Int.reduceEq, Int.reduceNe, Int.reduceLT, Int.reduceLE, Nat.reduceEqDiff, Nat.reduceAdd, Nat.reduceMul, Nat.reduceLT, Nat.reduceLeDiff, Nat.reduceSub, reduceCtorEq, reduceIte, Int.reduceToNat]
          refine vreg tt_ok hF rfl ?_; simp only [go_sem, Int.reduceEq, Int.reduceNe, Int.reduceLT, Int.reduceLE, Nat.reduceEqDiff, Nat.reduceAdd, Nat.reduceMul, Nat.reduceLT, Nat.reduceLeDiff, Nat.reduceSub, reduceCtorEq, reduceIte, Int.reduceToNat]
          refine ⟨(wiS e c.es k ++ [e], true), ⟨by have := wiS_len e c.es k; simp; omega, ?_, ?_⟩, ?_⟩
          · rw [wiS_new hlt hd (by rw [hxe]; exact hlt2), hxe]
          · rw [wiD_step hlt, hd, hxe, decide_eq_true hlt2]; rfl
          · simp only [go_sem, Int.reduceEq, Int.reduceNe, Int.reduceLT, Int.reduceLE, Nat.reduceEqDiff, Nat.reduceAdd, Nat.reduceMul, Nat.reduceLT, Nat.reduceLeDiff, Nat.reduceSub, reduceCtorEq, reduceIte, Int.reduceToNat]
        · have hlt2 : ¬ e.name < x.name := of_decide_eq_false hf
          refine vwp_skip ⟨(wiS e c.es k, false), ⟨Nat.le_succ_of_le hwl, ?_, ?_⟩, ?_⟩
          · rw [wiS_old hlt (.inr (by rw [hxe]; exact hlt2)), hxe]
          · rw [wiD_step hlt, hd, hxe, decide_eq_false hlt2]; rfl
          · simp only [go_sem, Int.reduceEq, Int.reduceNe, Int.reduceLT, Int.reduceLE, Nat.reduceEqDiff, Nat.reduceAdd, Nat.reduceMul, Nat.reduceLT, Nat.reduceLeDiff, Nat.reduceSub, reduceCtorEq, reduceIte, Int.reduceToNat]
    · rintro ⟨L, d⟩ ⟨hL, hLx, hd⟩
      refine vregd tt_ok mixed hF rfl (by kernel_rfl) (by kernel_rfl) ?_; simp only [go_sem, Int.reduceEq, Int.reduceNe, Int.reduceLT, Int.reduceLE, Nat.reduceEqDiff, Nat.reduceAdd, Nat.reduceMul, Nat.reduceLT, Nat.reduceLeDiff, Nat.reduceSub, reduceCtorEq, reduceIte, Int.reduceToNat]
      simp only [hrow, go_sem, Int.reduceEq, Int.reduceNe, Int.reduceLT, Int.reduceLE, Nat.reduceEqDiff, Nat.reduceAdd, Nat.reduceMul, Nat.reduceLT, Nat.reduceLeDiff, Nat.reduceSub, reduceCtorEq, reduceIte, Int.reduceToNat]
      have hL : L.length ≤ 1000002 := hL
      refine ⟨⟨by omega, by omega⟩, by omega, ?_⟩
      simp only [ent_snoc, go_sem, Int.reduceEq, Int.reduceNe, Int.reduceLT, Int.reduceLE, Nat.reduceEqDiff, Nat.reduceAdd, Nat.reduceMul, Nat.reduceLT, Nat.reduceLeDiff, Nat.reduceSub, reduceCtorEq, reduceIte, Int.reduceToNat]
      refine hNd _ (VWp.keep [2,3,4,5,6,7] [2,3,4,5,8,30] ?_); simp only [go_sem, Int.reduceEq, Int.reduceNe, Int.reduceLT, Int.reduceLE, Nat.reduceEqDiff, Nat.reduceAdd, Nat.reduceMul, Nat.reduceLT, Nat.reduceLeDiff, Nat.reduceSub, reduceCtorEq, reduceIte, Int.reduceToNat]
      refine vreg tt_ok hF rfl ?_; simp only [go_sem, Int.reduceEq, Int.reduceNe, Int.reduceLT, Int.reduceLE, Nat.reduceEqDiff, Nat.reduceAdd, Nat.reduceMul, Nat.reduceLT, Nat.reduceLeDiff, Nat.reduceSub, reduceCtorEq, reduceIte, Int.reduceToNat]
      rw [wrap_i64 (by omega) (by omega)]
      refine ⟨k + 1, by omega, by omega, ?_⟩
      have hLx : L ++ [x] = wiS e c.es (k + 1) := hLx
      have hd : d = wiD e c.es (k + 1) := hd
      simp only [go_sem, Int.reduceEq, Int.reduceNe, Int.reduceLT, Int.reduceLE, Nat.reduceEqDiff, Nat.reduceAdd, Nat.reduceMul, Nat.reduceLT, Nat.reduceLeDiff, Nat.reduceSub, reduceCtorEq, reduceIte, Int.reduceToNat, hLx, ← hd]
      simp [← hLx]
  · have hle : k = c.es.length := by have : c.es.length ≤ k := by simpa using hf
                                     omega
    subst hle
    refine vwp_exit ?_
    simp only [go_sem, Int.reduceEq, Int.reduceNe, Int.reduceLT, Int.reduceLE, Nat.reduceEqDiff, Nat.reduceAdd, Nat.reduceMul, Nat.reduceLT, Nat.reduceLeDiff, Nat.reduceSub, reduceCtorEq, reduceIte, Int.reduceToNat]
    refine hN _ (VWp.keep [2,3,4,5,6] [2,3,4,5,8,30] ?_); simp only [go_sem, Int.reduceEq, Int.reduceNe, Int.reduceLT, Int.reduceLE, Nat.reduceEqDiff, Nat.reduceAdd, Nat.reduceMul, Nat.reduceLT, Nat.reduceLeDiff, Nat.reduceSub, reduceCtorEq, reduceIte, Int.reduceToNat]
    refine vmeet (fun _ : Unit => [(4, .ptr 4 0), (5, .ptr 5 0)])
      (fun _ => [(4, .box 31 [.nil, .nil]), (5, .box 31 [.own 30 (insE e c.es).length, .own 8 c.gs.length]), (8, .arr 2 47 (c.gs.map grpC)), (30, .arr 4 45 ((insE e c.es).map entC))]) (fun _ => True) ?_ ?_
    · refine vwp_seq_k fun Na hNa => vreg tt_ok hF rfl ?_; simp only [go_sem, Int.reduceEq, Int.reduceNe, Int.reduceLT, Int.reduceLE, Nat.reduceEqDiff, Nat.reduceAdd, Nat.reduceMul, Nat.reduceLT, Nat.reduceLeDiff, Nat.reduceSub, reduceCtorEq, reduceIte, Int.reduceToNat]
      refine hNa _ (VWp.keep [3,4,5,50] [3,4,5,8,30] ?_); simp only [go_sem, Int.reduceEq, Int.reduceNe, Int.reduceLT, Int.reduceLE, Nat.reduceEqDiff, Nat.reduceAdd, Nat.reduceMul, Nat.reduceLT, Nat.reduceLeDiff, Nat.reduceSub, reduceCtorEq, reduceIte, Int.reduceToNat]
      rw [wiS_end e c.es]
      have hwl : (wiS e c.es c.es.length).length ≤ 1000001 := Nat.le_trans (wiS_len e c.es _) (by omega)
      refine vif rfl ⟨fun ht => ?_, fun hf => ?_⟩
      · rw [Bool.not_eq_true'] at ht; rw [ht]
        refine vreg tt_ok hF rfl ?_; simp only [go_sem, Int.reduceEq, Int.reduceNe, Int.reduceLT, Int.reduceLE, Nat.reduceEqDiff, Nat.reduceAdd, Nat.reduceMul, Nat.reduceLT, Nat.reduceLeDiff, Nat.reduceSub, reduceCtorEq, reduceIte, Int.reduceToNat]
        refine ⟨by omega, ?_⟩
        simp only [ent_snoc, go_sem, Int.reduceEq, Int.reduceNe, Int.reduceLT, Int.reduceLE, Nat.reduceEqDiff, Nat.reduceAdd, Nat.reduceMul, Nat.reduceLT, Nat.reduceLeDiff, Nat.reduceSub, reduceCtorEq, reduceIte, Int.reduceToNat]
        exact ⟨(), trivial⟩
      · rw [Bool.not_eq_false'] at hf; rw [hf]
        refine vwp_skip ⟨(), ?_⟩
        simp only [go_sem, Int.reduceEq, Int.reduceNe, Int.reduceLT, Int.reduceLE, Nat.reduceEqDiff, Nat.reduceAdd, Nat.reduceMul, Nat.reduceLT, Nat.reduceLeDiff, Nat.reduceSub, reduceCtorEq, reduceIte, Int.reduceToNat]
    · intro _ _
      refine vwp_seq_k fun N hN => vreg tt_ok hF rfl ?_; simp only [go_sem, Int.reduceEq, Int.reduceNe, Int.reduceLT, Int.reduceLE, Nat.reduceEqDiff, Nat.reduceAdd, Nat.reduceMul, Nat.reduceLT, Nat.reduceLeDiff, Nat.reduceSub, reduceCtorEq, reduceIte, Int.reduceToNat]
      refine hN _ (vwp_ret ?_)
      simp only [go_sem, Int.reduceEq, Int.reduceNe, Int.reduceLT, Int.reduceLE, Nat.reduceEqDiff, Nat.reduceAdd, Nat.reduceMul, Nat.reduceLT, Nat.reduceLeDiff, Nat.reduceSub, reduceCtorEq, reduceIte, Int.reduceToNat]
      exact LeV.refl _
end Go.Proofs.YtldkmclfhjcicaaGreatDoor

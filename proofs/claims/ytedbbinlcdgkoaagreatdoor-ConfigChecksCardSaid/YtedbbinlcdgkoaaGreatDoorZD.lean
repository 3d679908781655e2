import Derived.Outline
import Derived.Test.YtedbbinlcdgkoaaGreatDoorZB

/- Layer 19: equal configurations; ConfigBack. -/
namespace Go.Proofs.YtedbbinlcdgkoaaGreatDoor
open Go.RowKit Go.Lib
-- FUSE
-- LESS
set_option linter.unusedVariables false
set_option linter.unusedSimpArgs false
end Go.Proofs.YtedbbinlcdgkoaaGreatDoor

/- Layer 19: the law's few. -/
namespace Go.Proofs.YtedbbinlcdgkoaaGreatDoor
open Go.RowKit Go.Lib
-- FUSE
-- LESS
set_option linter.unusedVariables false
set_option linter.unusedSimpArgs false
def cutU (u : UniT) : UniT := ⟨u.addr, u.kind, u.ser.take 40, u.cyl, u.head⟩
def cutP (p : ParT) : ParT := ⟨p.size, p.cls.take 40⟩
def fewT (c : CfgT) : CfgT := ⟨(c.us.take 20).map cutU, c.store, (c.ps.take 8).map cutP⟩
theorem snoc_map {α β : Type} (f : α → β) {l : List α} {k : Nat} (h : k < l.length) : (l.take (k + 1)).map f = (l.take k).map f ++ [f l[k]] := by
  rw [List.take_succ_eq_append_getElem h, List.map_append]; rfl
theorem take_stop {α : Type} {l : List α} {k n : Nat} (hk : k ≤ n) (h : false = (decide (k < l.length) && decide (k < n))) : l.take k = l.take n := by
  by_cases q : k < l.length
  · rw [decide_eq_true q, Bool.true_and] at h
    have := of_decide_eq_false h.symm
    rw [show k = n by omega]
  · rw [List.take_of_length_le (by omega), List.take_of_length_le (by omega)]
set_option maxHeartbeats 8000000 in
set_option maxRecDepth 4000 in
theorem few_spec (c : CfgT) : Spec Tryz.prog 11 [.agg (cfgC c)] (.agg (cfgC (fewT c))) := by
  have hret : cfgC (fewT c) = [.sl 5 (((c.us.take 20).map cutU).map uniC), .int .i64 c.store, .sl 2 (((c.ps.take 8).map cutP).map parC)] := rfl
  rw [hret]
  unfold cfgC
  refine spec_of tt_ok Tryz.func11 rfl (by decide) Tryz.ntmps11 (congrArg Array.toList Tryz.results11) (by simp) (by decide) rfl rfl (fun F hF => ?_)
  refine vwp_seq_k fun Na hNa => vreg tt_ok hF rfl ?_; simp only [go_sem, Int.reduceEq, Int.reduceLT, Nat.reduceEqDiff, Nat.reduceAdd, Nat.reduceMul, Nat.reduceLT, Nat.reduceLeDiff, Int.reduceToNat]   -- R0
  refine hNa _ (VWp.keepR [1,2] [1,2] tt_ok hF rfl fun Nb hNb => ?_); simp only [go_sem, Int.reduceEq, Int.reduceLT, Nat.reduceEqDiff, Nat.reduceAdd, Nat.reduceMul, Nat.reduceLT, Nat.reduceLeDiff, Int.reduceToNat]   -- R1
  refine hNb _ (VWp.keep [1,2,3] [1,2,3] ?_); simp only [go_sem, Int.reduceEq, Int.reduceLT, Nat.reduceEqDiff, Nat.reduceAdd, Nat.reduceMul, Nat.reduceLT, Nat.reduceLeDiff, Int.reduceToNat]
  refine VWp.adoptB 500000 5 58 (o := 3) (i := 0) rfl rfl rfl (by decide) ?_
  simp only [go_sem, Int.reduceEq, Int.reduceLT, Nat.reduceEqDiff, Nat.reduceAdd, Nat.reduceMul, Nat.reduceLT, Nat.reduceLeDiff, Int.reduceToNat]
  refine VWp.adoptB 500001 2 65 (o := 3) (i := 2) rfl rfl rfl (by decide) ?_
  refine VWp.keep [1,2,3] [1,2,3,500000,500001] ?_; simp only [go_sem, Int.reduceEq, Int.reduceLT, Nat.reduceEqDiff, Nat.reduceAdd, Nat.reduceMul, Nat.reduceLT, Nat.reduceLeDiff, Int.reduceToNat]
  refine vwp_seq_k fun Nc hNc => ?_
  refine vwp_seq_k fun Nd hNd => vreg tt_ok hF rfl ?_; simp only [go_sem, Int.reduceEq, Int.reduceLT, Nat.reduceEqDiff, Nat.reduceAdd, Nat.reduceMul, Nat.reduceLT, Nat.reduceLeDiff, Int.reduceToNat]   -- R2
  refine hNd _ (VWp.keep [1,2,3,4] [1,2,3,500000,500001] ?_); simp only [go_sem, Int.reduceEq, Int.reduceLT, Nat.reduceEqDiff, Nat.reduceAdd, Nat.reduceMul, Nat.reduceLT, Nat.reduceLeDiff, Int.reduceToNat]
  refine vwp_block ?_
  refine vloop (fun k : Nat => [(1, .ptr 1 0), (2, .ptr 2 0), (3, .ptr 3 0), (4, .int .i64 (k : Int))])
    (fun k => [(1, .box 25 [.sl 5 (c.us.map uniC), .int .i64 c.store, .sl 2 (c.ps.map parC)]), (2, .box 25 [.nil, .int .i64 0, .nil]), (3, .box 25 [.own 500000 (((c.us.take k).map cutU).map uniC).length, .int .i64 c.store, .own 500001 0]), (500000, .arr 5 58 (((c.us.take k).map cutU).map uniC)), (500001, .arr 2 65 [])])
    (fun k => k ≤ 20 ∧ k ≤ c.us.length) (fun k => 20 - k) 0 ⟨by omega, by omega⟩ (by simp only [List.take_zero, List.map_nil, List.length_nil, go_sem, Int.reduceEq, Int.reduceLT, Nat.reduceEqDiff, Nat.reduceAdd, Nat.reduceMul, Nat.reduceLT, Nat.reduceLeDiff, Int.reduceToNat]; try simp) ?_
  rintro k ⟨hk, hkl⟩
  refine vwp_seq_k fun Ne hNe => ?_
  refine vmeet (fun b : Bool => [(1, .ptr 1 0), (2, .ptr 2 0), (3, .ptr 3 0), (4, .int .i64 (k : Int)), (19, .bool b)])
    (fun _ => [(1, .box 25 [.sl 5 (c.us.map uniC), .int .i64 c.store, .sl 2 (c.ps.map parC)]), (2, .box 25 [.nil, .int .i64 0, .nil]), (3, .box 25 [.own 500000 (((c.us.take k).map cutU).map uniC).length, .int .i64 c.store, .own 500001 0]), (500000, .arr 5 58 (((c.us.take k).map cutU).map uniC)), (500001, .arr 2 65 [])])
    (fun b => b = (decide (k < c.us.length) && decide (k < 20))) ?_ ?_
  · by_cases hq : k < c.us.length
    · have f1 : decide ((k : Int) < (c.us.length : Int)) = true := decide_eq_true (by omega)
      have f2 : decide ((k : Int) < 20) = decide (k < 20) := by apply decide_eq_decide.2; omega
      refine vreg tt_ok hF rfl ?_; simp only [go_sem, Int.reduceEq, Int.reduceLT, Nat.reduceEqDiff, Nat.reduceAdd, Nat.reduceMul, Nat.reduceLT, Nat.reduceLeDiff, Int.reduceToNat, List.length_map, f1, f2]
      exact ⟨_, rfl, by simp [hq]⟩
    · have f1 : decide ((k : Int) < (c.us.length : Int)) = false := decide_eq_false (by omega)
      refine vreg tt_ok hF rfl ?_; simp only [go_sem, Int.reduceEq, Int.reduceLT, Nat.reduceEqDiff, Nat.reduceAdd, Nat.reduceMul, Nat.reduceLT, Nat.reduceLeDiff, Int.reduceToNat, List.length_map, f1]
      exact ⟨_, rfl, by simp [hq]⟩
  intro b hb
  refine vif rfl ⟨fun ht => ?_, fun hf => ?_⟩
  · rw [ht] at hb
    have hb := Bool.and_eq_true_iff.1 hb.symm
    have hq : k < c.us.length := of_decide_eq_true hb.1
    have hq2 : k < 20 := of_decide_eq_true hb.2
    have hget := uni_row hq
    have hst := snoc_map cutU hq
    have hlen : ((c.us.take k).map cutU).length = k := by simp only [List.length_map, List.length_take]; omega
    obtain ⟨u, hu⟩ : ∃ u, c.us[k] = u := ⟨_, rfl⟩
    rw [hu] at hget hst
    obtain ⟨L, hL⟩ : ∃ L, (c.us.take k).map cutU = L := ⟨_, rfl⟩
    rw [hL] at hst hlen
    rw [hL]
    refine vwp_skip (hNe _ ?_)
    refine vwp_seq_k fun Ng hNg => ?_
    refine vwp_block ?_
    refine vwp_seq_k fun Nh hNh => vreg tt_ok hF rfl ?_; simp only [go_sem, Int.reduceEq, Int.reduceLT, Nat.reduceEqDiff, Nat.reduceAdd, Nat.reduceMul, Nat.reduceLT, Nat.reduceLeDiff, Int.reduceToNat]   -- R5
    simp only [hget, List.length_map, Int.toNat_natCast, go_sem, Int.reduceEq, Int.reduceLT, Nat.reduceEqDiff, Nat.reduceAdd, Nat.reduceMul, Nat.reduceLT, Nat.reduceLeDiff, Int.reduceToNat]
    refine ⟨⟨by omega, by omega⟩, ?_⟩
    refine hNh _ (VWp.keep [1,2,3,4,5] [1,2,3,5,500000,500001] ?_); simp only [go_sem, Int.reduceEq, Int.reduceLT, Nat.reduceEqDiff, Nat.reduceAdd, Nat.reduceMul, Nat.reduceLT, Nat.reduceLeDiff, Int.reduceToNat]
    refine vmeet (fun _ : Unit => [(1, .ptr 1 0), (2, .ptr 2 0), (3, .ptr 3 0), (4, .int .i64 (k : Int)), (5, .ptr 5 0)])
      (fun _ => [(1, .box 25 [.sl 5 (c.us.map uniC), .int .i64 c.store, .sl 2 (c.ps.map parC)]), (2, .box 25 [.nil, .int .i64 0, .nil]), (3, .box 25 [.own 500000 (L.map uniC).length, .int .i64 c.store, .own 500001 0]), (500000, .arr 5 58 (L.map uniC)), (500001, .arr 2 65 []), (5, .box 58 [.int .i64 u.addr, .int .i64 u.kind, .str (u.ser.take 40), .int .i64 u.cyl, .int .i64 u.head])])
      (fun _ => True) ?_ ?_
    · by_cases hbig : 40 < u.ser.length
      · have f1 : decide ((u.ser.length : Int) > 40) = true := decide_eq_true (by omega)
        have f2 : decide ((40 : Int) < u.ser.length) = true := decide_eq_true (by omega)
        refine vwp_seq_k fun Nj hNj => vreg tt_ok hF rfl ?_; simp only [go_sem, Int.reduceEq, Int.reduceLT, Nat.reduceEqDiff, Nat.reduceAdd, Nat.reduceMul, Nat.reduceLT, Nat.reduceLeDiff, Int.reduceToNat]   -- R6
        simp only [f1, f2, go_sem, Int.reduceEq, Int.reduceLT, Nat.reduceEqDiff, Nat.reduceAdd, Nat.reduceMul, Nat.reduceLT, Nat.reduceLeDiff, Int.reduceToNat]
        refine hNj _ (VWp.keep [1,2,3,4,5,30] [1,2,3,5,500000,500001] ?_); simp only [go_sem, Int.reduceEq, Int.reduceLT, Nat.reduceEqDiff, Nat.reduceAdd, Nat.reduceMul, Nat.reduceLT, Nat.reduceLeDiff, Int.reduceToNat]
        refine vif rfl ⟨fun ht => ?_, (fun hf => by first | cases hf | exact absurd hf (by decide))⟩
        refine vreg tt_ok hF rfl ?_; simp only [go_sem, Int.reduceEq, Int.reduceLT, Nat.reduceEqDiff, Nat.reduceAdd, Nat.reduceMul, Nat.reduceLT, Nat.reduceLeDiff, Int.reduceToNat]   -- R7
        refine ⟨by omega, ?_⟩
        exact ⟨(), by first | rfl | trivial | simp⟩
      · have f1 : decide ((u.ser.length : Int) > 40) = false := decide_eq_false (by omega)
        have f2 : decide ((40 : Int) < u.ser.length) = false := decide_eq_false (by omega)
        rw [List.take_of_length_le (by omega)]
        refine vwp_seq_k fun Nj hNj => vreg tt_ok hF rfl ?_; simp only [go_sem, Int.reduceEq, Int.reduceLT, Nat.reduceEqDiff, Nat.reduceAdd, Nat.reduceMul, Nat.reduceLT, Nat.reduceLeDiff, Int.reduceToNat]   -- R6
        simp only [f1, f2, go_sem, Int.reduceEq, Int.reduceLT, Nat.reduceEqDiff, Nat.reduceAdd, Nat.reduceMul, Nat.reduceLT, Nat.reduceLeDiff, Int.reduceToNat]
        refine hNj _ (VWp.keep [1,2,3,4,5,30] [1,2,3,5,500000,500001] ?_); simp only [go_sem, Int.reduceEq, Int.reduceLT, Nat.reduceEqDiff, Nat.reduceAdd, Nat.reduceMul, Nat.reduceLT, Nat.reduceLeDiff, Int.reduceToNat]
        refine vif rfl ⟨(fun hf => by first | cases hf | exact absurd hf (by decide)), fun ht => ?_⟩
        refine vwp_skip ?_
        exact ⟨(), by first | rfl | trivial | simp⟩
    intro _ _
    refine vreg tt_ok hF rfl ?_; simp only [go_sem, Int.reduceEq, Int.reduceLT, Nat.reduceEqDiff, Nat.reduceAdd, Nat.reduceMul, Nat.reduceLT, Nat.reduceLeDiff, Int.reduceToNat]   -- R8
    refine ⟨by omega, ?_⟩
    refine hNg _ (VWp.keep [1,2,3,4] [1,2,3,500000,500001] ?_); simp only [go_sem, Int.reduceEq, Int.reduceLT, Nat.reduceEqDiff, Nat.reduceAdd, Nat.reduceMul, Nat.reduceLT, Nat.reduceLeDiff, Int.reduceToNat]
    refine vreg tt_ok hF rfl ?_; simp only [go_sem, Int.reduceEq, Int.reduceLT, Nat.reduceEqDiff, Nat.reduceAdd, Nat.reduceMul, Nat.reduceLT, Nat.reduceLeDiff, Int.reduceToNat]   -- R4
    rw [wrap_i64 (by omega) (by omega)]
    exact ⟨k + 1, by omega, by omega, by simp [hst, uniC, cutU]; omega⟩
  · rw [hf] at hb
    have hd := take_stop hk hb
    rw [hd]
    refine vwp_exit ?_
    simp only [go_sem, Int.reduceEq, Int.reduceLT, Nat.reduceEqDiff, Nat.reduceAdd, Nat.reduceMul, Nat.reduceLT, Nat.reduceLeDiff, Int.reduceToNat]
    refine hNc _ (VWp.keep [1,2,3] [1,2,3,500000,500001] ?_); simp only [go_sem, Int.reduceEq, Int.reduceLT, Nat.reduceEqDiff, Nat.reduceAdd, Nat.reduceMul, Nat.reduceLT, Nat.reduceLeDiff, Int.reduceToNat]
    refine vwp_seq_k fun Nk hNk => ?_
    refine vwp_seq_k fun Nl hNl => vreg tt_ok hF rfl ?_; simp only [go_sem, Int.reduceEq, Int.reduceLT, Nat.reduceEqDiff, Nat.reduceAdd, Nat.reduceMul, Nat.reduceLT, Nat.reduceLeDiff, Int.reduceToNat]   -- R9
    refine hNl _ (VWp.keep [1,2,3,6] [1,2,3,500000,500001] ?_); simp only [go_sem, Int.reduceEq, Int.reduceLT, Nat.reduceEqDiff, Nat.reduceAdd, Nat.reduceMul, Nat.reduceLT, Nat.reduceLeDiff, Int.reduceToNat]
    obtain ⟨U, hU⟩ : ∃ U, ((c.us.take 20).map cutU).map uniC = U := ⟨_, rfl⟩
    rw [hU]
    refine vwp_block ?_
    refine vloop (fun k : Nat => [(1, .ptr 1 0), (2, .ptr 2 0), (3, .ptr 3 0), (6, .int .i64 (k : Int))])
      (fun k => [(1, .box 25 [.sl 5 (c.us.map uniC), .int .i64 c.store, .sl 2 (c.ps.map parC)]), (2, .box 25 [.nil, .int .i64 0, .nil]), (3, .box 25 [.own 500000 U.length, .int .i64 c.store, .own 500001 (((c.ps.take k).map cutP).map parC).length]), (500000, .arr 5 58 U), (500001, .arr 2 65 (((c.ps.take k).map cutP).map parC))])
      (fun k => k ≤ 8 ∧ k ≤ c.ps.length) (fun k => 8 - k) 0 ⟨by omega, by omega⟩ (by simp only [List.take_zero, List.map_nil, List.length_nil, go_sem, Int.reduceEq, Int.reduceLT, Nat.reduceEqDiff, Nat.reduceAdd, Nat.reduceMul, Nat.reduceLT, Nat.reduceLeDiff, Int.reduceToNat]; try (rw [← hU]; simp)) ?_
    clear hb hf hd
    rintro k ⟨hk, hkl⟩
    refine vwp_seq_k fun Nm hNm => ?_
    refine vmeet (fun b : Bool => [(1, .ptr 1 0), (2, .ptr 2 0), (3, .ptr 3 0), (6, .int .i64 (k : Int)), (49, .bool b)])
      (fun _ => [(1, .box 25 [.sl 5 (c.us.map uniC), .int .i64 c.store, .sl 2 (c.ps.map parC)]), (2, .box 25 [.nil, .int .i64 0, .nil]), (3, .box 25 [.own 500000 U.length, .int .i64 c.store, .own 500001 (((c.ps.take k).map cutP).map parC).length]), (500000, .arr 5 58 U), (500001, .arr 2 65 (((c.ps.take k).map cutP).map parC))])
      (fun b => b = (decide (k < c.ps.length) && decide (k < 8))) ?_ ?_
    · by_cases hq : k < c.ps.length
      · have f1 : decide ((k : Int) < (c.ps.length : Int)) = true := decide_eq_true (by omega)
        have f2 : decide ((k : Int) < 8) = decide (k < 8) := by apply decide_eq_decide.2; omega
        refine vreg tt_ok hF rfl ?_; simp only [go_sem, Int.reduceEq, Int.reduceLT, Nat.reduceEqDiff, Nat.reduceAdd, Nat.reduceMul, Nat.reduceLT, Nat.reduceLeDiff, Int.reduceToNat, List.length_map, f1, f2]
        exact ⟨_, rfl, by simp [hq]⟩
      · have f1 : decide ((k : Int) < (c.ps.length : Int)) = false := decide_eq_false (by omega)
        refine vreg tt_ok hF rfl ?_; simp only [go_sem, Int.reduceEq, Int.reduceLT, Nat.reduceEqDiff, Nat.reduceAdd, Nat.reduceMul, Nat.reduceLT, Nat.reduceLeDiff, Int.reduceToNat, List.length_map, f1]
        exact ⟨_, rfl, by simp [hq]⟩
    intro b hb
    refine vif rfl ⟨fun ht => ?_, fun hf => ?_⟩
    · rw [ht] at hb
      have hb := Bool.and_eq_true_iff.1 hb.symm
      have hq : k < c.ps.length := of_decide_eq_true hb.1
      have hq2 : k < 8 := of_decide_eq_true hb.2
      have hget := par_row hq
      have hst := snoc_map cutP hq
      have hlen : ((c.ps.take k).map cutP).length = k := by simp only [List.length_map, List.length_take]; omega
      obtain ⟨u, hu⟩ : ∃ u, c.ps[k] = u := ⟨_, rfl⟩
      rw [hu] at hget hst
      obtain ⟨L, hL⟩ : ∃ L, (c.ps.take k).map cutP = L := ⟨_, rfl⟩
      rw [hL] at hst hlen
      rw [hL]
      refine vwp_skip (hNm _ ?_)
      refine vwp_seq_k fun No hNo => ?_
      refine vwp_block ?_
      refine vwp_seq_k fun Np hNp => vreg tt_ok hF rfl ?_; simp only [hget, List.length_map, Int.toNat_natCast, go_sem, Int.reduceEq, Int.reduceLT, Nat.reduceEqDiff, Nat.reduceAdd, Nat.reduceMul, Nat.reduceLT, Nat.reduceLeDiff, Int.reduceToNat]
      refine ⟨⟨by omega, by omega⟩, ?_⟩
      refine hNp _ (VWp.keep [1,2,3,6,7] [1,2,3,7,500000,500001] ?_); simp only [go_sem, Int.reduceEq, Int.reduceLT, Nat.reduceEqDiff, Nat.reduceAdd, Nat.reduceMul, Nat.reduceLT, Nat.reduceLeDiff, Int.reduceToNat]
      refine vmeet (fun _ : Unit => [(1, .ptr 1 0), (2, .ptr 2 0), (3, .ptr 3 0), (6, .int .i64 (k : Int)), (7, .ptr 7 0)])
        (fun _ => [(1, .box 25 [.sl 5 (c.us.map uniC), .int .i64 c.store, .sl 2 (c.ps.map parC)]), (2, .box 25 [.nil, .int .i64 0, .nil]), (3, .box 25 [.own 500000 U.length, .int .i64 c.store, .own 500001 (L.map parC).length]), (500000, .arr 5 58 U), (500001, .arr 2 65 (L.map parC)), (7, .box 65 [.int .i64 u.size, .str (u.cls.take 40)])])
        (fun _ => True) ?_ ?_
      · by_cases hbig : 40 < u.cls.length
        · have f1 : decide ((u.cls.length : Int) > 40) = true := decide_eq_true (by omega)
          have f2 : decide ((40 : Int) < u.cls.length) = true := decide_eq_true (by omega)
          refine vwp_seq_k fun Nr hNr => vreg tt_ok hF rfl ?_; simp only [f1, f2, go_sem, Int.reduceEq, Int.reduceLT, Nat.reduceEqDiff, Nat.reduceAdd, Nat.reduceMul, Nat.reduceLT, Nat.reduceLeDiff, Int.reduceToNat]
          refine hNr _ (VWp.keep [1,2,3,6,7,60] [1,2,3,7,500000,500001] ?_); simp only [go_sem, Int.reduceEq, Int.reduceLT, Nat.reduceEqDiff, Nat.reduceAdd, Nat.reduceMul, Nat.reduceLT, Nat.reduceLeDiff, Int.reduceToNat]
          refine vif rfl ⟨fun ht => ?_, (fun hf => by first | cases hf | exact absurd hf (by decide))⟩
          refine vreg tt_ok hF rfl ?_; simp only [go_sem, Int.reduceEq, Int.reduceLT, Nat.reduceEqDiff, Nat.reduceAdd, Nat.reduceMul, Nat.reduceLT, Nat.reduceLeDiff, Int.reduceToNat]
          refine ⟨by omega, ?_⟩
          exact ⟨(), by first | rfl | trivial | simp⟩
        · have f1 : decide ((u.cls.length : Int) > 40) = false := decide_eq_false (by omega)
          have f2 : decide ((40 : Int) < u.cls.length) = false := decide_eq_false (by omega)
          rw [List.take_of_length_le (by omega)]
          refine vwp_seq_k fun Nr hNr => vreg tt_ok hF rfl ?_; simp only [f1, f2, go_sem, Int.reduceEq, Int.reduceLT, Nat.reduceEqDiff, Nat.reduceAdd, Nat.reduceMul, Nat.reduceLT, Nat.reduceLeDiff, Int.reduceToNat]
          refine hNr _ (VWp.keep [1,2,3,6,7,60] [1,2,3,7,500000,500001] ?_); simp only [go_sem, Int.reduceEq, Int.reduceLT, Nat.reduceEqDiff, Nat.reduceAdd, Nat.reduceMul, Nat.reduceLT, Nat.reduceLeDiff, Int.reduceToNat]
          refine vif rfl ⟨(fun hf => by first | cases hf | exact absurd hf (by decide)), fun ht => ?_⟩
          refine vwp_skip ?_
          exact ⟨(), by first | rfl | trivial | simp⟩
      intro _ _
      refine vreg tt_ok hF rfl ?_; simp only [go_sem, Int.reduceEq, Int.reduceLT, Nat.reduceEqDiff, Nat.reduceAdd, Nat.reduceMul, Nat.reduceLT, Nat.reduceLeDiff, Int.reduceToNat]
      refine ⟨by omega, ?_⟩
      refine hNo _ (VWp.keep [1,2,3,6] [1,2,3,500000,500001] ?_); simp only [go_sem, Int.reduceEq, Int.reduceLT, Nat.reduceEqDiff, Nat.reduceAdd, Nat.reduceMul, Nat.reduceLT, Nat.reduceLeDiff, Int.reduceToNat]
      refine vreg tt_ok hF rfl ?_; simp only [go_sem, Int.reduceEq, Int.reduceLT, Nat.reduceEqDiff, Nat.reduceAdd, Nat.reduceMul, Nat.reduceLT, Nat.reduceLeDiff, Int.reduceToNat]
      rw [wrap_i64 (by omega) (by omega)]
      exact ⟨k + 1, by omega, by omega, by simp [hst, parC, cutP]; omega⟩
    · rw [hf] at hb
      have hd := take_stop hk hb
      rw [hd]
      refine vwp_exit ?_
      simp only [go_sem, Int.reduceEq, Int.reduceLT, Nat.reduceEqDiff, Nat.reduceAdd, Nat.reduceMul, Nat.reduceLT, Nat.reduceLeDiff, Int.reduceToNat]
      refine hNk _ (VWp.keepR [2,3] [2,3,500000,500001] tt_ok hF rfl fun Ns hNs => ?_); simp only [go_sem, Int.reduceEq, Int.reduceLT, Nat.reduceEqDiff, Nat.reduceAdd, Nat.reduceMul, Nat.reduceLT, Nat.reduceLeDiff, Int.reduceToNat]
      refine hNs _ (VWp.keep [2] [2,500000,500001] ?_); simp only [go_sem, Int.reduceEq, Int.reduceLT, Nat.reduceEqDiff, Nat.reduceAdd, Nat.reduceMul, Nat.reduceLT, Nat.reduceLeDiff, Int.reduceToNat]
      refine vwp_ret ?_
      simp only [go_sem, Int.reduceEq, Int.reduceLT, Nat.reduceEqDiff, Nat.reduceAdd, Nat.reduceMul, Nat.reduceLT, Nat.reduceLeDiff, Int.reduceToNat]
      first | exact LeV.of_eq (by rw [← hU]) | exact ⟨LeV.of_eq (by rw [← hU]), by simp⟩
end Go.Proofs.YtedbbinlcdgkoaaGreatDoor

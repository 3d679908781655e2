import Derived.Outline
import Derived.Test.YtedbbinlcdgkoaaGreatDoorYK
import Derived.Test.YtedbbinlcdgkoaaGreatDoorQT
import Derived.Test.YtedbbinlcdgkoaaGreatDoorYH

/- Layer 19: the reference's Split, Words, number and address. -/
namespace Go.Proofs.YtedbbinlcdgkoaaGreatDoor
open Go.RowKit Go.Lib
-- FUSE
-- LESS
set_option linter.unusedVariables false
set_option linter.unusedSimpArgs false
theorem drop_part (s : Bs) {f k : Nat} (hf : f ≤ k) (hk : k < s.length) : s.drop f = (s.drop f).take (k - f) ++ s[k] :: s.drop (k + 1) := by
  have h1 : (s.drop f).drop (k - f) = s.drop k := by rw [List.drop_drop]; congr 1; omega
  rw [← List.drop_eq_getElem_cons hk, ← h1, List.take_append_drop]
theorem slice_part (s : Bs) (f k : Nat) : (s.take k).drop f = (s.drop f).take (k - f) := by
  rw [List.drop_take]
set_option maxHeartbeats 4000000 in
set_option maxRecDepth 4000 in
theorem rSplit_spec (s : Bs) (d : UInt8) (hs : s.length ≤ 1000000) : Spec Tryz.prog 55 [.str s, .int .u8 (d.toNat : Int)] (.sl 1 ((splitAtC d s).map strR)) := by
  refine spec_of tt_ok Tryz.func55 rfl (by decide) Tryz.ntmps55 (congrArg Array.toList Tryz.results55) (by simp) (by decide) rfl rfl (fun F hF => ?_)
  refine vwp_seq_k fun Na hNa => vreg tt_ok hF rfl ?_; simp only [go_sem, Int.reduceEq, Int.reduceLT, Nat.reduceEqDiff, Nat.reduceAdd, Nat.reduceMul, Nat.reduceLT, Nat.reduceLeDiff, Int.reduceToNat]   -- R0
  refine hNa _ (VWp.keepR [0,1] [] tt_ok hF rfl fun Nb hNb => ?_); simp only [go_sem, Int.reduceEq, Int.reduceLT, Nat.reduceEqDiff, Nat.reduceAdd, Nat.reduceMul, Nat.reduceLT, Nat.reduceLeDiff, Int.reduceToNat]   -- R1
  refine hNb _ (VWp.keep [0,1,5] [] ?_); simp only [go_sem, Int.reduceEq, Int.reduceLT, Nat.reduceEqDiff, Nat.reduceAdd, Nat.reduceMul, Nat.reduceLT, Nat.reduceLeDiff, Int.reduceToNat]
  refine VWp.adopt 500000 1 9 (x := 5) rfl rfl (by decide) ?_ (closed_of (by simp only [go_sem, Int.reduceEq, Int.reduceLT, Nat.reduceEqDiff, Nat.reduceAdd, Nat.reduceMul, Nat.reduceLT, Nat.reduceLeDiff, Int.reduceToNat]) (by simp only [go_sem, Int.reduceEq, Int.reduceLT, Nat.reduceEqDiff, Nat.reduceAdd, Nat.reduceMul, Nat.reduceLT, Nat.reduceLeDiff, Int.reduceToNat]))
  · refine VWp.keep [0,1,5] [500000] ?_; simp only [go_sem, Int.reduceEq, Int.reduceLT, Nat.reduceEqDiff, Nat.reduceAdd, Nat.reduceMul, Nat.reduceLT, Nat.reduceLeDiff, Int.reduceToNat]
    refine vwp_seq_k fun Nc hNc => vreg tt_ok hF rfl ?_; simp only [go_sem, Int.reduceEq, Int.reduceLT, Nat.reduceEqDiff, Nat.reduceAdd, Nat.reduceMul, Nat.reduceLT, Nat.reduceLeDiff, Int.reduceToNat]   -- R2
    refine hNc _ (VWp.keep [0,1,5,6] [500000] ?_); simp only [go_sem, Int.reduceEq, Int.reduceLT, Nat.reduceEqDiff, Nat.reduceAdd, Nat.reduceMul, Nat.reduceLT, Nat.reduceLeDiff, Int.reduceToNat]
    refine vwp_seq_k fun Nd hNd => ?_
    refine vwp_seq_k fun Ne hNe => vreg tt_ok hF rfl ?_; simp only [go_sem, Int.reduceEq, Int.reduceLT, Nat.reduceEqDiff, Nat.reduceAdd, Nat.reduceMul, Nat.reduceLT, Nat.reduceLeDiff, Int.reduceToNat]   -- R3
    refine hNe _ (VWp.keep [0,1,5,6,7] [500000] ?_); simp only [go_sem, Int.reduceEq, Int.reduceLT, Nat.reduceEqDiff, Nat.reduceAdd, Nat.reduceMul, Nat.reduceLT, Nat.reduceLeDiff, Int.reduceToNat]
    refine vwp_block ?_
    refine vloop (fun z : Nat × Nat × List Bs => [(0, .str s), (1, .int .u8 (d.toNat : Int)), (5, .own 500000 z.2.2.length), (6, .int .i64 (z.2.1 : Int)), (7, .int .i64 (z.1 : Int))]) (fun z => [(500000, .arr 1 9 (z.2.2.map strR))])
      (fun z => z.1 ≤ s.length ∧ z.2.1 ≤ z.1 ∧ z.2.2.length ≤ z.1 ∧ (∀ c ∈ (s.drop z.2.1).take (z.1 - z.2.1), c ≠ d) ∧ splitAtC d s = z.2.2 ++ splitAtC d (s.drop z.2.1)) (fun z => s.length - z.1) (0, 0, []) ⟨by simp, by simp, by simp, by simp, by simp⟩ (by simp only [List.map_nil, List.length_nil, go_sem, Int.reduceEq, Int.reduceLT, Nat.reduceEqDiff, Nat.reduceAdd, Nat.reduceMul, Nat.reduceLT, Nat.reduceLeDiff, Int.reduceToNat]; try simp) ?_
    rintro ⟨k, f, acc⟩ ⟨hk, hf, ha, hno, hsp⟩
    simp only at hk hf ha hno hsp
    refine vwp_seq_k fun Nf hNf => ?_
    refine vwp_seq_k fun Ng hNg => vreg tt_ok hF rfl ?_; simp only [go_sem, Int.reduceEq, Int.reduceLT, Nat.reduceEqDiff, Nat.reduceAdd, Nat.reduceMul, Nat.reduceLT, Nat.reduceLeDiff, Int.reduceToNat]   -- R4
    refine hNg _ (VWp.keep [0,1,5,6,7,11] [500000] ?_); simp only [go_sem, Int.reduceEq, Int.reduceLT, Nat.reduceEqDiff, Nat.reduceAdd, Nat.reduceMul, Nat.reduceLT, Nat.reduceLeDiff, Int.reduceToNat]
    refine vif rfl ⟨fun ht => ?_, fun hfa => ?_⟩
    · have hlt : k < s.length := by have := of_decide_eq_true ht; omega
      have hget : s.getD k 0 = s[k] := by simp [List.getD_eq_getElem?_getD, List.getElem?_eq_getElem hlt]
      have hw : IntKind.i64.wrap ((k : Int) + 1) = ((k + 1 : Nat) : Int) := by rw [wrap_i64 (by omega) (by omega)]; omega
      have hdp := drop_part s hf hlt
      refine vwp_skip (hNf _ ?_)
      refine vmeet (fun z : Nat × List Bs => [(0, .str s), (1, .int .u8 (d.toNat : Int)), (5, .own 500000 z.2.length), (6, .int .i64 (z.1 : Int)), (7, .int .i64 (k : Int))]) (fun z => [(500000, .arr 1 9 (z.2.map strR))])
        (fun z => z.1 ≤ k + 1 ∧ z.2.length ≤ k + 1 ∧ (∀ c ∈ (s.drop z.1).take (k + 1 - z.1), c ≠ d) ∧ splitAtC d s = z.2 ++ splitAtC d (s.drop z.1)) ?_ ?_
      · refine vwp_block ?_
        by_cases hc : s[k] = d
        · have e1 : decide ((s[k].toNat : Int) = (d.toNat : Int)) = true := decide_eq_true (by rw [hc])
          refine vwp_seq_k fun Ni hNi => vreg tt_ok hF rfl ?_; simp only [go_sem, Int.reduceEq, Int.reduceLT, Nat.reduceEqDiff, Nat.reduceAdd, Nat.reduceMul, Nat.reduceLT, Nat.reduceLeDiff, Int.reduceToNat]   -- R6
          simp only [hget, e1, Int.toNat_natCast, go_sem, Int.reduceEq, Int.reduceLT, Nat.reduceEqDiff, Nat.reduceAdd, Nat.reduceMul, Nat.reduceLT, Nat.reduceLeDiff, Int.reduceToNat]
          refine ⟨by omega, ?_⟩
          refine hNi _ (VWp.keep [0,1,5,6,7,18] [500000] ?_); simp only [go_sem, Int.reduceEq, Int.reduceLT, Nat.reduceEqDiff, Nat.reduceAdd, Nat.reduceMul, Nat.reduceLT, Nat.reduceLeDiff, Int.reduceToNat]
          refine vif rfl ⟨fun ht => ?_, (fun hf => by first | cases hf | exact absurd hf (by decide))⟩
          refine vwp_seq_k fun Nj hNj => vreg tt_ok hF rfl ?_; simp only [go_sem, Int.reduceEq, Int.reduceLT, Nat.reduceEqDiff, Nat.reduceAdd, Nat.reduceMul, Nat.reduceLT, Nat.reduceLeDiff, Int.reduceToNat]   -- R7
          simp only [Int.toNat_natCast, slice_part, go_sem, Int.reduceEq, Int.reduceLT, Nat.reduceEqDiff, Nat.reduceAdd, Nat.reduceMul, Nat.reduceLT, Nat.reduceLeDiff, Int.reduceToNat]
          refine ⟨by omega, ?_⟩
          refine ⟨by omega, ?_⟩
          refine hNj _ (VWp.keep [0,1,5,7] [500000] ?_); simp only [go_sem, Int.reduceEq, Int.reduceLT, Nat.reduceEqDiff, Nat.reduceAdd, Nat.reduceMul, Nat.reduceLT, Nat.reduceLeDiff, Int.reduceToNat]
          refine vreg tt_ok hF rfl ?_; simp only [go_sem, Int.reduceEq, Int.reduceLT, Nat.reduceEqDiff, Nat.reduceAdd, Nat.reduceMul, Nat.reduceLT, Nat.reduceLeDiff, Int.reduceToNat]   -- R8
          rw [hw]
          refine ⟨(k + 1, acc ++ [(s.drop f).take (k - f)]), ⟨by simp only; omega, by simp only [List.length_append, List.length_cons, List.length_nil]; omega, by simp, ?_⟩, ?_⟩
          · rw [hsp]
            simp only
            conv => lhs; rw [hdp, hc]
            rw [splitAtC_cons d _ _ hno]; simp
          · simp [strR]
        · have e1 : decide ((s[k].toNat : Int) = (d.toNat : Int)) = false := decide_eq_false (fun q => hc (UInt8.toNat_inj.1 (by omega)))
          refine vwp_seq_k fun Ni hNi => vreg tt_ok hF rfl ?_; simp only [go_sem, Int.reduceEq, Int.reduceLT, Nat.reduceEqDiff, Nat.reduceAdd, Nat.reduceMul, Nat.reduceLT, Nat.reduceLeDiff, Int.reduceToNat]   -- R6
          simp only [hget, e1, Int.toNat_natCast, go_sem, Int.reduceEq, Int.reduceLT, Nat.reduceEqDiff, Nat.reduceAdd, Nat.reduceMul, Nat.reduceLT, Nat.reduceLeDiff, Int.reduceToNat]
          refine ⟨by omega, ?_⟩
          refine hNi _ (VWp.keep [0,1,5,6,7,18] [500000] ?_); simp only [go_sem, Int.reduceEq, Int.reduceLT, Nat.reduceEqDiff, Nat.reduceAdd, Nat.reduceMul, Nat.reduceLT, Nat.reduceLeDiff, Int.reduceToNat]
          refine vif rfl ⟨(fun hf => by first | cases hf | exact absurd hf (by decide)), fun ht => ?_⟩
          refine vwp_skip ?_
          refine ⟨(f, acc), ⟨by simp only; omega, by simp only; omega, ?_, hsp⟩, by simp only [go_sem, Int.reduceEq, Int.reduceLT, Nat.reduceEqDiff, Nat.reduceAdd, Nat.reduceMul, Nat.reduceLT, Nat.reduceLeDiff, Int.reduceToNat]; try simp⟩
          intro c hc2
          rw [show k + 1 - f = (k - f) + 1 by omega, List.take_add_one] at hc2
          rcases List.mem_append.1 hc2 with q | q
          · exact hno c q
          · have : (s.drop f)[k - f]? = some s[k] := by rw [List.getElem?_drop, show f + (k - f) = k by omega, List.getElem?_eq_getElem hlt]
            rw [this] at q
            simp at q
            rw [q]; exact hc
      rintro ⟨f2, acc2⟩ ⟨h1, h2, h3, h4⟩
      simp only at h1 h2 h3 h4
      refine vreg tt_ok hF rfl ?_; simp only [go_sem, Int.reduceEq, Int.reduceLT, Nat.reduceEqDiff, Nat.reduceAdd, Nat.reduceMul, Nat.reduceLT, Nat.reduceLeDiff, Int.reduceToNat]   -- R5
      rw [hw]
      exact ⟨(k + 1, f2, acc2), ⟨by simp only; omega, by simp only; omega, by simp only; omega, h3, h4⟩, by simp only; omega, by simp only [go_sem, Int.reduceEq, Int.reduceLT, Nat.reduceEqDiff, Nat.reduceAdd, Nat.reduceMul, Nat.reduceLT, Nat.reduceLeDiff, Int.reduceToNat]; try simp⟩
    · have hke : k = s.length := by have := of_decide_eq_false hfa; omega
      have hall : (s.drop f).take (k - f) = s.drop f := List.take_of_length_le (by rw [List.length_drop]; omega)
      rw [hall] at hno
      rw [splitAtC_last d _ hno] at hsp
      refine vwp_exit ?_
      simp only [go_sem, Int.reduceEq, Int.reduceLT, Nat.reduceEqDiff, Nat.reduceAdd, Nat.reduceMul, Nat.reduceLT, Nat.reduceLeDiff, Int.reduceToNat]
      refine hNd _ (VWp.keepR [0,5,6] [500000] tt_ok hF rfl fun Nk hNk => ?_); simp only [go_sem, Int.reduceEq, Int.reduceLT, Nat.reduceEqDiff, Nat.reduceAdd, Nat.reduceMul, Nat.reduceLT, Nat.reduceLeDiff, Int.reduceToNat]   -- R9
      simp only [Int.toNat_natCast, List.take_length, go_sem, Int.reduceEq, Int.reduceLT, Nat.reduceEqDiff, Nat.reduceAdd, Nat.reduceMul, Nat.reduceLT, Nat.reduceLeDiff, Int.reduceToNat]
      refine ⟨by omega, ?_⟩
      refine ⟨by omega, ?_⟩
      refine hNk _ (VWp.keep [4] [500000] ?_); simp only [go_sem, Int.reduceEq, Int.reduceLT, Nat.reduceEqDiff, Nat.reduceAdd, Nat.reduceMul, Nat.reduceLT, Nat.reduceLeDiff, Int.reduceToNat]
      refine vwp_ret ?_
      simp only [go_sem, Int.reduceEq, Int.reduceLT, Nat.reduceEqDiff, Nat.reduceAdd, Nat.reduceMul, Nat.reduceLT, Nat.reduceLeDiff, Int.reduceToNat]
      first | exact LeV.of_eq (by rw [hsp]; simp [strR]) | exact ⟨LeV.of_eq (by rw [hsp]; simp [strR]), by simp⟩
theorem words_filter : ∀ (s cur : Bs), fldG cur s = (match splitAtC 32 s with | [] => [] | p :: ps => (cur ++ p) :: ps).filter (fun w => !decide (w = []))
  | [], cur => by
    rw [fldG, splitAtC]
    by_cases h : cur = []
    · subst h; rfl
    · simp [h]
  | c :: s, cur => by
    rw [fldG, splitAtC]
    by_cases hc : c = 32
    · rw [if_pos hc, if_pos hc, words_filter s []]
      have hne := splitAtC_ne 32 s
      cases hs : splitAtC 32 s with
      | nil => exact absurd hs hne
      | cons p ps =>
        by_cases h : cur = []
        · subst h; simp
        · simp [h]
    · rw [if_neg hc, if_neg hc, words_filter s (cur ++ [c])]
      cases hs : splitAtC 32 s with
      | nil => exact absurd hs (splitAtC_ne 32 s)
      | cons p ps => simp
theorem words_split2 (s : Bs) : wordsT s = (splitAtC 32 s).filter (fun w => !decide (w = [])) := by
  unfold wordsT
  rw [words_filter]
  cases hs : splitAtC 32 s with
  | nil => exact absurd hs (splitAtC_ne 32 s)
  | cons p ps => simp
set_option maxHeartbeats 4000000 in
set_option maxRecDepth 4000 in
theorem rWords_spec (s : Bs) (hs : s.length ≤ 1000000) : Spec Tryz.prog 56 [.str s] (.sl 1 ((wordsT s).map strR)) := by
  have hsp := rSplit_spec s 32 hs
  have hln := (split_props 32 s).2
  rw [words_split2]
  obtain ⟨L, hL⟩ : ∃ L, splitAtC 32 s = L := ⟨_, rfl⟩
  rw [hL] at hsp hln
  rw [hL]
  have hsp : Spec Tryz.prog 55 [.str s, .int .u8 32] (.sl 1 (L.map strR)) := hsp
  refine spec_of tt_ok Tryz.func56 rfl (by decide) Tryz.ntmps56 (congrArg Array.toList Tryz.results56) (by simp) (by decide) rfl rfl (fun F hF => ?_)
  refine vwp_seq_k fun Na hNa => vreg tt_ok hF rfl ?_; simp only [go_sem, Int.reduceEq, Int.reduceLT, Nat.reduceEqDiff, Nat.reduceAdd, Nat.reduceMul, Nat.reduceLT, Nat.reduceLeDiff, Int.reduceToNat]   -- R0
  refine hNa _ (VWp.keepR [0] [] tt_ok hF rfl fun Nb hNb => ?_); simp only [go_sem, Int.reduceEq, Int.reduceLT, Nat.reduceEqDiff, Nat.reduceAdd, Nat.reduceMul, Nat.reduceLT, Nat.reduceLeDiff, Int.reduceToNat]   -- R1
  refine hNb _ (VWp.keep [0,3] [] ?_); simp only [go_sem, Int.reduceEq, Int.reduceLT, Nat.reduceEqDiff, Nat.reduceAdd, Nat.reduceMul, Nat.reduceLT, Nat.reduceLeDiff, Int.reduceToNat]
  refine VWp.adopt 500000 1 9 (x := 3) rfl rfl (by decide) ?_ (closed_of (by simp only [go_sem, Int.reduceEq, Int.reduceLT, Nat.reduceEqDiff, Nat.reduceAdd, Nat.reduceMul, Nat.reduceLT, Nat.reduceLeDiff, Int.reduceToNat]) (by simp only [go_sem, Int.reduceEq, Int.reduceLT, Nat.reduceEqDiff, Nat.reduceAdd, Nat.reduceMul, Nat.reduceLT, Nat.reduceLeDiff, Int.reduceToNat]))
  refine VWp.keep [0,3] [500000] ?_; simp only [go_sem, Int.reduceEq, Int.reduceLT, Nat.reduceEqDiff, Nat.reduceAdd, Nat.reduceMul, Nat.reduceLT, Nat.reduceLeDiff, Int.reduceToNat]
  refine vwp_seq_k fun Nc hNc => vreg tt_ok hF rfl ?_; simp only [go_sem, Int.reduceEq, Int.reduceLT, Nat.reduceEqDiff, Nat.reduceAdd, Nat.reduceMul, Nat.reduceLT, Nat.reduceLeDiff, Int.reduceToNat]   -- R2
  refine .inl ⟨_, hsp, ?_⟩; try simp only [go_sem, Int.reduceEq, Int.reduceLT, Nat.reduceEqDiff, Nat.reduceAdd, Nat.reduceMul, Nat.reduceLT, Nat.reduceLeDiff, Int.reduceToNat]
  refine hNc _ (VWp.keep [3,4] [500000] ?_); simp only [go_sem, Int.reduceEq, Int.reduceLT, Nat.reduceEqDiff, Nat.reduceAdd, Nat.reduceMul, Nat.reduceLT, Nat.reduceLeDiff, Int.reduceToNat]
  refine vwp_seq_k fun Nd hNd => ?_
  refine vwp_seq_k fun Ne hNe => vreg tt_ok hF rfl ?_; simp only [go_sem, Int.reduceEq, Int.reduceLT, Nat.reduceEqDiff, Nat.reduceAdd, Nat.reduceMul, Nat.reduceLT, Nat.reduceLeDiff, Int.reduceToNat]   -- R3
  refine hNe _ (VWp.keep [3,4,5] [500000] ?_); simp only [go_sem, Int.reduceEq, Int.reduceLT, Nat.reduceEqDiff, Nat.reduceAdd, Nat.reduceMul, Nat.reduceLT, Nat.reduceLeDiff, Int.reduceToNat]
  refine vwp_block ?_
  refine vloop (fun z : Nat × List Bs => [(3, .own 500000 z.2.length), (4, .sl 1 (L.map strR)), (5, .int .i64 (z.1 : Int))]) (fun z => [(500000, .arr 1 9 (z.2.map strR))])
    (fun z => z.1 ≤ L.length ∧ z.2.length ≤ z.1 ∧ (L.take z.1).filter (fun w => !decide (w = [])) = z.2) (fun z => L.length - z.1) (0, []) ⟨by simp, by simp, by simp⟩ (by simp only [List.map_nil, List.length_nil, go_sem, Int.reduceEq, Int.reduceLT, Nat.reduceEqDiff, Nat.reduceAdd, Nat.reduceMul, Nat.reduceLT, Nat.reduceLeDiff, Int.reduceToNat]; try simp) ?_
  rintro ⟨k, acc⟩ ⟨hk, ha, hno⟩
  simp only at hk ha hno
  refine vwp_seq_k fun Nf hNf => ?_
  refine vwp_seq_k fun Ng hNg => vreg tt_ok hF rfl ?_; simp only [go_sem, Int.reduceEq, Int.reduceLT, Nat.reduceEqDiff, Nat.reduceAdd, Nat.reduceMul, Nat.reduceLT, Nat.reduceLeDiff, Int.reduceToNat]   -- R4
  try simp only [List.length_map]
  refine hNg _ (VWp.keep [3,4,5,11] [500000] ?_); simp only [go_sem, Int.reduceEq, Int.reduceLT, Nat.reduceEqDiff, Nat.reduceAdd, Nat.reduceMul, Nat.reduceLT, Nat.reduceLeDiff, Int.reduceToNat]
  refine vif rfl ⟨fun ht => ?_, fun hfa => ?_⟩
  · have hlt : k < L.length := by have := of_decide_eq_true ht; omega
    have hget := str_row hlt
    have hst : (L.take (k + 1)).filter (fun w => !decide (w = [])) = acc ++ [L[k]].filter (fun w => !decide (w = [])) := by rw [List.take_succ_eq_append_getElem hlt, List.filter_append, hno]
    obtain ⟨w, hw⟩ : ∃ w, L[k] = w := ⟨_, rfl⟩
    rw [hw] at hget hst
    refine vwp_skip (hNf _ ?_)
    refine vmeet (fun acc : List Bs => [(3, .own 500000 acc.length), (4, .sl 1 (L.map strR)), (5, .int .i64 (k : Int))]) (fun acc => [(500000, .arr 1 9 (acc.map strR))])
      (fun acc => acc.length ≤ k + 1 ∧ (L.take (k + 1)).filter (fun w => !decide (w = [])) = acc) ?_ ?_
    · refine vwp_block ?_
      by_cases hc : w = []
      · subst hc
        refine vwp_seq_k fun Ni hNi => vreg tt_ok hF rfl ?_; simp only [go_sem, Int.reduceEq, Int.reduceLT, Nat.reduceEqDiff, Nat.reduceAdd, Nat.reduceMul, Nat.reduceLT, Nat.reduceLeDiff, Int.reduceToNat]   -- R6
        simp only [hget, List.length_map, Int.toNat_natCast, decide_true, go_sem, Int.reduceEq, Int.reduceLT, Nat.reduceEqDiff, Nat.reduceAdd, Nat.reduceMul, Nat.reduceLT, Nat.reduceLeDiff, Int.reduceToNat]
        refine ⟨⟨by omega, by omega⟩, ?_⟩
        refine hNi _ (VWp.keep [3,4,5,18] [500000] ?_); simp only [go_sem, Int.reduceEq, Int.reduceLT, Nat.reduceEqDiff, Nat.reduceAdd, Nat.reduceMul, Nat.reduceLT, Nat.reduceLeDiff, Int.reduceToNat]
        refine vif rfl ⟨(fun hf => by first | cases hf | exact absurd hf (by decide)), fun ht => ?_⟩
        refine vwp_skip ?_
        exact ⟨acc, ⟨by omega, by rw [hst]; simp⟩, by simp only [go_sem, Int.reduceEq, Int.reduceLT, Nat.reduceEqDiff, Nat.reduceAdd, Nat.reduceMul, Nat.reduceLT, Nat.reduceLeDiff, Int.reduceToNat]; try simp⟩
      · have e1 : decide (w = ([] : Bs)) = false := decide_eq_false hc
        refine vwp_seq_k fun Ni hNi => vreg tt_ok hF rfl ?_; simp only [go_sem, Int.reduceEq, Int.reduceLT, Nat.reduceEqDiff, Nat.reduceAdd, Nat.reduceMul, Nat.reduceLT, Nat.reduceLeDiff, Int.reduceToNat]   -- R6
        simp only [hget, List.length_map, Int.toNat_natCast, e1, go_sem, Int.reduceEq, Int.reduceLT, Nat.reduceEqDiff, Nat.reduceAdd, Nat.reduceMul, Nat.reduceLT, Nat.reduceLeDiff, Int.reduceToNat]
        refine ⟨⟨by omega, by omega⟩, ?_⟩
        refine hNi _ (VWp.keep [3,4,5,18] [500000] ?_); simp only [go_sem, Int.reduceEq, Int.reduceLT, Nat.reduceEqDiff, Nat.reduceAdd, Nat.reduceMul, Nat.reduceLT, Nat.reduceLeDiff, Int.reduceToNat]
        refine vif rfl ⟨fun ht => ?_, (fun hf => by first | cases hf | exact absurd hf (by decide))⟩
        refine vreg tt_ok hF rfl ?_
        simp only [hget, List.length_map, Int.toNat_natCast, go_sem, Int.reduceEq, Int.reduceLT, Nat.reduceEqDiff, Nat.reduceAdd, Nat.reduceMul, Nat.reduceLT, Nat.reduceLeDiff, Int.reduceToNat]
        refine ⟨⟨by omega, by omega⟩, by omega, ?_⟩
        exact ⟨acc ++ [w], ⟨by simp; omega, by rw [hst]; simp [hc]⟩, by simp [strR]⟩
    rintro acc2 ⟨h1, h2⟩
    refine vreg tt_ok hF rfl ?_; simp only [go_sem, Int.reduceEq, Int.reduceLT, Nat.reduceEqDiff, Nat.reduceAdd, Nat.reduceMul, Nat.reduceLT, Nat.reduceLeDiff, Int.reduceToNat]   -- R5
    rw [wrap_i64 (by omega) (by omega)]
    exact ⟨(k + 1, acc2), ⟨by simp only; omega, by simp only; omega, h2⟩, by simp only; omega, by simp only [go_sem, Int.reduceEq, Int.reduceLT, Nat.reduceEqDiff, Nat.reduceAdd, Nat.reduceMul, Nat.reduceLT, Nat.reduceLeDiff, Int.reduceToNat]; try simp⟩
  · have hke : k = L.length := by have := of_decide_eq_false hfa; omega
    rw [hke, List.take_length] at hno
    refine vwp_exit ?_
    simp only [go_sem, Int.reduceEq, Int.reduceLT, Nat.reduceEqDiff, Nat.reduceAdd, Nat.reduceMul, Nat.reduceLT, Nat.reduceLeDiff, Int.reduceToNat]
    refine hNd _ (VWp.keepR [3] [500000] tt_ok hF rfl fun Nj hNj => ?_); simp only [go_sem, Int.reduceEq, Int.reduceLT, Nat.reduceEqDiff, Nat.reduceAdd, Nat.reduceMul, Nat.reduceLT, Nat.reduceLeDiff, Int.reduceToNat]   -- R8
    refine hNj _ (VWp.keep [2] [500000] ?_); simp only [go_sem, Int.reduceEq, Int.reduceLT, Nat.reduceEqDiff, Nat.reduceAdd, Nat.reduceMul, Nat.reduceLT, Nat.reduceLeDiff, Int.reduceToNat]
    refine vwp_ret ?_
    simp only [go_sem, Int.reduceEq, Int.reduceLT, Nat.reduceEqDiff, Nat.reduceAdd, Nat.reduceMul, Nat.reduceLT, Nat.reduceLeDiff, Int.reduceToNat]
    first | exact LeV.of_eq (by rw [hno]) | exact ⟨LeV.of_eq (by rw [hno]), by simp⟩
theorem num_all (w : Bs) (k : Nat) (hk : k < w.length) : (w.take (k + 1)).all digC = ((w.take k).all digC && digC w[k]) := by
  rw [List.take_succ_eq_append_getElem hk, List.all_append]; simp
theorem val_snoc (w : Bs) (k : Nat) (hk : k < w.length) : valT (w.take (k + 1)) = 10 * valT (w.take k) + (w[k].toNat - 48) := by
  unfold valT
  rw [List.take_succ_eq_append_getElem hk, List.foldl_append]
  simp only [List.foldl_cons, List.foldl_nil]
  omega
set_option maxHeartbeats 4000000 in
set_option maxRecDepth 4000 in
theorem rnumber_spec (w : Bs) (hw : w.length ≤ 1000000) : Spec Tryz.prog 77 [.str w] (.int .i64 (numT w)) := by
  obtain ⟨R, hR⟩ : ∃ R, numT w = R := ⟨_, rfl⟩
  rw [hR]
  unfold numT at hR
  obtain ⟨b1, e1⟩ : ∃ b, decide (w.length < 1) = b := ⟨_, rfl⟩
  obtain ⟨b2, e2⟩ : ∃ b, decide (6 < w.length) = b := ⟨_, rfl⟩
  obtain ⟨b3, e3⟩ : ∃ b, decide (1 < w.length) = b := ⟨_, rfl⟩
  obtain ⟨b4, e4⟩ : ∃ b, decide (w.getD 0 0 = 48) = b := ⟨_, rfl⟩
  rw [e1, e2, e3, e4] at hR
  have f1 : decide ((w.length : Int) < 1) = b1 := by rw [← e1]; apply decide_eq_decide.2; omega
  have f2 : decide ((w.length : Int) > 6) = b2 := by rw [← e2]; apply decide_eq_decide.2; omega
  have f2' : decide ((6 : Int) < w.length) = b2 := by rw [← e2]; apply decide_eq_decide.2; omega
  have f3 : decide ((w.length : Int) > 1) = b3 := by rw [← e3]; apply decide_eq_decide.2; omega
  have f3' : decide ((1 : Int) < w.length) = b3 := by rw [← e3]; apply decide_eq_decide.2; omega
  have f4 : decide ((((w.getD 0 0).toNat : Nat) : Int) = 48) = b4 := by
    rw [← e4]; apply decide_eq_decide.2
    constructor
    · intro q; exact UInt8.toNat_inj.1 (by have : (w.getD 0 0).toNat = 48 := by omega
                                           rw [this]; rfl)
    · intro q; rw [q]; rfl
  by_cases hbad : (b1 || b2 || (b3 && b4)) = true
  · have hR : R = -1 := by rw [← hR, hbad]; rfl
    subst hR
    have hlen : b3 = true → 1 < w.length := fun q => of_decide_eq_true (by rw [e3]; exact q)
    refine spec_of tt_ok Tryz.func77 rfl (by decide) Tryz.ntmps77 (congrArg Array.toList Tryz.results77) (by simp) (by decide) rfl rfl (fun F hF => ?_)
    refine vwp_seq_k fun Na hNa => vreg tt_ok hF rfl ?_; simp only [go_sem, Int.reduceEq, Int.reduceLT, Nat.reduceEqDiff, Nat.reduceAdd, Nat.reduceMul, Nat.reduceLT, Nat.reduceLeDiff, Int.reduceToNat]   -- R0
    refine hNa _ (VWp.keep [0] [] ?_); simp only [go_sem, Int.reduceEq, Int.reduceLT, Nat.reduceEqDiff, Nat.reduceAdd, Nat.reduceMul, Nat.reduceLT, Nat.reduceLeDiff, Int.reduceToNat]
    refine vwp_seq_k fun Nb hNb => ?_
    refine vmeet (fun z : Bool => [(0, .str w), (22, .bool z)]) (fun _ => []) (fun z => z = true) ?_ ?_
    · cases b1 <;> cases b2 <;> cases b3 <;> cases b4
      all_goals first
        | (exfalso; exact absurd hbad (by decide))
        | (refine vreg tt_ok hF rfl ?_
           simp only [f1, f2, f2', f3, f3', f4, go_sem, Int.reduceEq, Int.reduceLT, Nat.reduceEqDiff, Nat.reduceAdd, Nat.reduceMul, Nat.reduceLT, Nat.reduceLeDiff, Int.reduceToNat]
           (repeat (refine ⟨by have := hlen rfl; omega, ?_⟩; try simp only [f1, f2, f2', f3, f3', f4, go_sem, Int.reduceEq, Int.reduceLT, Nat.reduceEqDiff, Nat.reduceAdd, Nat.reduceMul, Nat.reduceLT, Nat.reduceLeDiff, Int.reduceToNat]))
           exact ⟨_, rfl, by simp only [go_sem, Int.reduceEq, Int.reduceLT, Nat.reduceEqDiff, Nat.reduceAdd, Nat.reduceMul, Nat.reduceLT, Nat.reduceLeDiff, Int.reduceToNat]; try trivial⟩)
    intro z hz
    subst hz
    refine vif rfl ⟨fun ht => ?_, (fun hf => by first | cases hf | exact absurd hf (by decide))⟩
    refine vwp_seq_k fun Nd hNd => vreg tt_ok hF rfl ?_; simp only [go_sem, Int.reduceEq, Int.reduceLT, Nat.reduceEqDiff, Nat.reduceAdd, Nat.reduceMul, Nat.reduceLT, Nat.reduceLeDiff, Int.reduceToNat]   -- R2
    refine hNd _ (VWp.keep [2] [] ?_); simp only [go_sem, Int.reduceEq, Int.reduceLT, Nat.reduceEqDiff, Nat.reduceAdd, Nat.reduceMul, Nat.reduceLT, Nat.reduceLeDiff, Int.reduceToNat]
    (refine vwp_ret ?_; simp only [go_sem, Int.reduceEq, Int.reduceLT, Nat.reduceEqDiff, Nat.reduceAdd, Nat.reduceMul, Nat.reduceLT, Nat.reduceLeDiff, Int.reduceToNat]; first | exact LeV.refl _ | exact LeV.of_eq (by simp))
  · have hbad : (b1 || b2 || (b3 && b4)) = false := by simpa using hbad
    rw [hbad, Bool.false_or] at hR
    have hb1 : b1 = false := by revert hbad; cases b1 <;> simp
    have hb2 : b2 = false := by revert hbad; cases b1 <;> cases b2 <;> simp
    have hl1 : 1 ≤ w.length := by have := of_decide_eq_false (e1.trans hb1); omega
    have hl6 : w.length ≤ 6 := by have := of_decide_eq_false (e2.trans hb2); omega
    have hlen : b3 = true → 1 < w.length := fun q => of_decide_eq_true (by rw [e3]; exact q)
    refine spec_of tt_ok Tryz.func77 rfl (by decide) Tryz.ntmps77 (congrArg Array.toList Tryz.results77) (by simp) (by decide) rfl rfl (fun F hF => ?_)
    refine vwp_seq_k fun Na hNa => vreg tt_ok hF rfl ?_; simp only [go_sem, Int.reduceEq, Int.reduceLT, Nat.reduceEqDiff, Nat.reduceAdd, Nat.reduceMul, Nat.reduceLT, Nat.reduceLeDiff, Int.reduceToNat]   -- R0
    refine hNa _ (VWp.keep [0] [] ?_); simp only [go_sem, Int.reduceEq, Int.reduceLT, Nat.reduceEqDiff, Nat.reduceAdd, Nat.reduceMul, Nat.reduceLT, Nat.reduceLeDiff, Int.reduceToNat]
    refine vwp_seq_k fun Nb hNb => ?_
    refine vmeet (fun z : Bool => [(0, .str w), (22, .bool z)]) (fun _ => []) (fun z => z = false) ?_ ?_
    · cases b1 <;> cases b2 <;> cases b3 <;> cases b4
      all_goals first
        | (exfalso; exact absurd hbad (by decide))
        | (refine vreg tt_ok hF rfl ?_
           simp only [f1, f2, f2', f3, f3', f4, go_sem, Int.reduceEq, Int.reduceLT, Nat.reduceEqDiff, Nat.reduceAdd, Nat.reduceMul, Nat.reduceLT, Nat.reduceLeDiff, Int.reduceToNat]
           (repeat (refine ⟨by have := hlen rfl; omega, ?_⟩; try simp only [f1, f2, f2', f3, f3', f4, go_sem, Int.reduceEq, Int.reduceLT, Nat.reduceEqDiff, Nat.reduceAdd, Nat.reduceMul, Nat.reduceLT, Nat.reduceLeDiff, Int.reduceToNat]))
           exact ⟨_, rfl, by simp only [go_sem, Int.reduceEq, Int.reduceLT, Nat.reduceEqDiff, Nat.reduceAdd, Nat.reduceMul, Nat.reduceLT, Nat.reduceLeDiff, Int.reduceToNat]; try trivial⟩)
    intro z hz
    subst hz
    refine vif rfl ⟨(fun hf => by first | cases hf | exact absurd hf (by decide)), fun ht => ?_⟩
    refine vwp_skip (hNb _ ?_)
    refine vwp_seq_k fun Ne hNe => vreg tt_ok hF rfl ?_; simp only [go_sem, Int.reduceEq, Int.reduceLT, Nat.reduceEqDiff, Nat.reduceAdd, Nat.reduceMul, Nat.reduceLT, Nat.reduceLeDiff, Int.reduceToNat]   -- R3
    refine hNe _ (VWp.keep [0,3] [] ?_); simp only [go_sem, Int.reduceEq, Int.reduceLT, Nat.reduceEqDiff, Nat.reduceAdd, Nat.reduceMul, Nat.reduceLT, Nat.reduceLeDiff, Int.reduceToNat]
    refine vwp_seq_k fun Nf hNf => ?_
    refine vwp_seq_k fun Ng hNg => vreg tt_ok hF rfl ?_; simp only [go_sem, Int.reduceEq, Int.reduceLT, Nat.reduceEqDiff, Nat.reduceAdd, Nat.reduceMul, Nat.reduceLT, Nat.reduceLeDiff, Int.reduceToNat]   -- R4
    refine hNg _ (VWp.keep [0,3,4] [] ?_); simp only [go_sem, Int.reduceEq, Int.reduceLT, Nat.reduceEqDiff, Nat.reduceAdd, Nat.reduceMul, Nat.reduceLT, Nat.reduceLeDiff, Int.reduceToNat]
    refine vwp_block ?_
    refine vloop (fun k : Nat => [(0, .str w), (3, .int .i64 (valT (w.take k) : Int)), (4, .int .i64 (k : Int))]) (fun k => []) (fun k => k ≤ w.length ∧ (w.take k).all digC = true) (fun k => w.length - k) 0 ⟨by omega, by simp⟩ (by simp only [go_sem, Int.reduceEq, Int.reduceLT, Nat.reduceEqDiff, Nat.reduceAdd, Nat.reduceMul, Nat.reduceLT, Nat.reduceLeDiff, Int.reduceToNat]; try simp [valT]) ?_
    rintro k ⟨hk, hal⟩
    refine vwp_seq_k fun Nh hNh => ?_
    refine vwp_seq_k fun Ni hNi => vreg tt_ok hF rfl ?_; simp only [go_sem, Int.reduceEq, Int.reduceLT, Nat.reduceEqDiff, Nat.reduceAdd, Nat.reduceMul, Nat.reduceLT, Nat.reduceLeDiff, Int.reduceToNat]   -- R5
    refine hNi _ (VWp.keep [0,3,4,26] [] ?_); simp only [go_sem, Int.reduceEq, Int.reduceLT, Nat.reduceEqDiff, Nat.reduceAdd, Nat.reduceMul, Nat.reduceLT, Nat.reduceLeDiff, Int.reduceToNat]
    refine vif rfl ⟨fun ht => ?_, fun hf => ?_⟩
    · have hlt : k < w.length := by have := of_decide_eq_true ht; omega
      have hget : w.getD k 0 = w[k] := by simp [List.getD_eq_getElem?_getD, List.getElem?_eq_getElem hlt]
      have hsn := num_all w k hlt
      have hvs := val_snoc w k hlt
      rw [hal, Bool.true_and] at hsn
      have hcl := w[k].toNat_lt
      have hvb : valT (w.take k) < 1000000 := by
        have h1 := val_bound (w.take k) 0 hal
        have h2 : 10 ^ (w.take k).length ≤ 10 ^ 6 := Nat.pow_le_pow_right (by omega) (by rw [List.length_take]; omega)
        unfold valT; omega
      have hdg : digC w[k] = (decide (48 ≤ w[k].toNat) && decide (w[k].toNat ≤ 57)) := rfl
      have hR2 : digC w[k] = false → R = -1 := fun q => by
        have : w.all digC = false := by
          rw [← Bool.not_eq_true]; intro q2
          have := List.all_eq_true.1 q2 w[k] (List.getElem_mem hlt)
          rw [q] at this; cases this
        rw [← hR, this]; rfl
      obtain ⟨c, hc⟩ : ∃ c, w[k].toNat = c := ⟨_, rfl⟩
      rw [hc] at hcl hdg hvs
      refine vwp_skip (hNh _ ?_)
      refine vwp_seq_k fun Nj hNj => ?_
      refine vwp_block ?_
      refine vwp_seq_k fun Nk hNk => ?_
      by_cases hd : digC w[k] = true
      · rw [hd] at hdg hsn
        have hdg2 := Bool.and_eq_true_iff.1 hdg.symm
        have d1 : 48 ≤ c := of_decide_eq_true hdg2.1
        have d2 : c ≤ 57 := of_decide_eq_true hdg2.2
        have e1 : decide ((c : Int) < 48) = false := decide_eq_false (by omega)
        have e2 : decide ((57 : Int) < (c : Int)) = false := decide_eq_false (by omega)
        have e3 : decide ((c : Int) > 57) = false := decide_eq_false (by omega)
        have w1 : IntKind.u8.wrap ((c : Int) - 48) = ((c - 48 : Nat) : Int) := by rw [wrap_u8]; omega
        have w2 : IntKind.i64.wrap ((c - 48 : Nat) : Int) = ((c - 48 : Nat) : Int) := wrap_i64 (by omega) (by omega)
        have w3 : IntKind.i64.wrap (10 * (valT (w.take k) : Int)) = ((10 * valT (w.take k) : Nat) : Int) := by rw [wrap_i64 (by omega) (by omega)]; omega
        have w4 : IntKind.i64.wrap (((10 * valT (w.take k) : Nat) : Int) + ((c - 48 : Nat) : Int)) = ((10 * valT (w.take k) + (c - 48) : Nat) : Int) := by rw [wrap_i64 (by omega) (by omega)]; omega
        refine vwp_seq_k fun Nl hNl => vreg tt_ok hF rfl ?_; simp only [go_sem, Int.reduceEq, Int.reduceLT, Nat.reduceEqDiff, Nat.reduceAdd, Nat.reduceMul, Nat.reduceLT, Nat.reduceLeDiff, Int.reduceToNat]   -- R7
        simp only [hget, hc, Int.toNat_natCast, e1, e2, e3, go_sem, Int.reduceEq, Int.reduceLT, Nat.reduceEqDiff, Nat.reduceAdd, Nat.reduceMul, Nat.reduceLT, Nat.reduceLeDiff, Int.reduceToNat]
        (repeat (refine ⟨by omega, ?_⟩; try simp only [hget, hc, Int.toNat_natCast, e1, e2, e3, go_sem, Int.reduceEq, Int.reduceLT, Nat.reduceEqDiff, Nat.reduceAdd, Nat.reduceMul, Nat.reduceLT, Nat.reduceLeDiff, Int.reduceToNat]))
        refine hNl _ (VWp.keep [0,3,4,38] [] ?_); simp only [go_sem, Int.reduceEq, Int.reduceLT, Nat.reduceEqDiff, Nat.reduceAdd, Nat.reduceMul, Nat.reduceLT, Nat.reduceLeDiff, Int.reduceToNat]
        refine vif rfl ⟨(fun hf => by first | cases hf | exact absurd hf (by decide)), fun ht => ?_⟩
        refine vwp_skip (hNk _ ?_)
        refine vreg tt_ok hF rfl ?_
        simp only [hget, hc, Int.toNat_natCast, w1, w2, w3, w4, go_sem, Int.reduceEq, Int.reduceLT, Nat.reduceEqDiff, Nat.reduceAdd, Nat.reduceMul, Nat.reduceLT, Nat.reduceLeDiff, Int.reduceToNat]
        (repeat (refine ⟨by omega, ?_⟩; try simp only [hget, hc, Int.toNat_natCast, w1, w2, w3, w4, go_sem, Int.reduceEq, Int.reduceLT, Nat.reduceEqDiff, Nat.reduceAdd, Nat.reduceMul, Nat.reduceLT, Nat.reduceLeDiff, Int.reduceToNat]))
        refine hNj _ (VWp.keep [0,3,4] [] ?_); simp only [go_sem, Int.reduceEq, Int.reduceLT, Nat.reduceEqDiff, Nat.reduceAdd, Nat.reduceMul, Nat.reduceLT, Nat.reduceLeDiff, Int.reduceToNat]
        refine vreg tt_ok hF rfl ?_; simp only [go_sem, Int.reduceEq, Int.reduceLT, Nat.reduceEqDiff, Nat.reduceAdd, Nat.reduceMul, Nat.reduceLT, Nat.reduceLeDiff, Int.reduceToNat]   -- R6
        rw [wrap_i64 (by omega) (by omega)]
        exact ⟨k + 1, ⟨by omega, hsn⟩, by omega, by simp [hvs]⟩
      · have hd : digC w[k] = false := by simpa using hd
        rw [hR2 hd]
        rw [hd] at hdg
        refine vmeet (fun z : Bool => [(0, .str w), (3, .int .i64 (valT (w.take k) : Int)), (4, .int .i64 (k : Int)), (38, .bool z)]) (fun _ => []) (fun z => z = true) ?_ ?_
        · by_cases d1 : c < 48
          · have e1 : decide ((c : Int) < 48) = true := decide_eq_true (by omega)
            refine vreg tt_ok hF rfl ?_
            simp only [hget, hc, Int.toNat_natCast, e1, go_sem, Int.reduceEq, Int.reduceLT, Nat.reduceEqDiff, Nat.reduceAdd, Nat.reduceMul, Nat.reduceLT, Nat.reduceLeDiff, Int.reduceToNat]
            refine ⟨by omega, ?_⟩
            exact ⟨true, rfl, rfl⟩
          · have d2 : 57 < c := by
              rw [decide_eq_true (by omega : 48 ≤ c), Bool.true_and] at hdg
              have := of_decide_eq_false hdg.symm; omega
            have e1 : decide ((c : Int) < 48) = false := decide_eq_false (by omega)
            have e2 : decide ((57 : Int) < (c : Int)) = true := decide_eq_true (by omega)
            have e3 : decide ((c : Int) > 57) = true := decide_eq_true (by omega)
            refine vreg tt_ok hF rfl ?_
            simp only [hget, hc, Int.toNat_natCast, e1, e2, e3, go_sem, Int.reduceEq, Int.reduceLT, Nat.reduceEqDiff, Nat.reduceAdd, Nat.reduceMul, Nat.reduceLT, Nat.reduceLeDiff, Int.reduceToNat]
            refine ⟨by omega, ?_⟩
            try simp only [hget, hc, Int.toNat_natCast, e1, e2, e3, go_sem, Int.reduceEq, Int.reduceLT, Nat.reduceEqDiff, Nat.reduceAdd, Nat.reduceMul, Nat.reduceLT, Nat.reduceLeDiff, Int.reduceToNat]
            refine ⟨by omega, ?_⟩
            try simp only [hget, hc, Int.toNat_natCast, e1, e2, e3, go_sem, Int.reduceEq, Int.reduceLT, Nat.reduceEqDiff, Nat.reduceAdd, Nat.reduceMul, Nat.reduceLT, Nat.reduceLeDiff, Int.reduceToNat]
            exact ⟨true, rfl, rfl⟩
        intro z hz
        subst hz
        refine vif rfl ⟨fun ht => ?_, (fun hf => by first | cases hf | exact absurd hf (by decide))⟩
        refine vwp_seq_k fun Nm hNm => vreg tt_ok hF rfl ?_; simp only [go_sem, Int.reduceEq, Int.reduceLT, Nat.reduceEqDiff, Nat.reduceAdd, Nat.reduceMul, Nat.reduceLT, Nat.reduceLeDiff, Int.reduceToNat]   -- R8
        refine hNm _ (VWp.keep [2] [] ?_); simp only [go_sem, Int.reduceEq, Int.reduceLT, Nat.reduceEqDiff, Nat.reduceAdd, Nat.reduceMul, Nat.reduceLT, Nat.reduceLeDiff, Int.reduceToNat]
        (refine vwp_ret ?_; simp only [go_sem, Int.reduceEq, Int.reduceLT, Nat.reduceEqDiff, Nat.reduceAdd, Nat.reduceMul, Nat.reduceLT, Nat.reduceLeDiff, Int.reduceToNat]; first | exact LeV.refl _ | exact LeV.of_eq (by simp))
    · have hke : k = w.length := by have := of_decide_eq_false hf; omega
      subst hke
      rw [List.take_length] at hal
      rw [hal] at hR
      have hR : (valT w : Int) = R := hR
      refine vwp_exit ?_
      simp only [go_sem, Int.reduceEq, Int.reduceLT, Nat.reduceEqDiff, Nat.reduceAdd, Nat.reduceMul, Nat.reduceLT, Nat.reduceLeDiff, Int.reduceToNat]
      refine hNf _ (VWp.keepR [3] [] tt_ok hF rfl fun Nn hNn => ?_); simp only [go_sem, Int.reduceEq, Int.reduceLT, Nat.reduceEqDiff, Nat.reduceAdd, Nat.reduceMul, Nat.reduceLT, Nat.reduceLeDiff, Int.reduceToNat]   -- R10
      refine hNn _ (VWp.keep [2] [] ?_); simp only [go_sem, Int.reduceEq, Int.reduceLT, Nat.reduceEqDiff, Nat.reduceAdd, Nat.reduceMul, Nat.reduceLT, Nat.reduceLeDiff, Int.reduceToNat]
      refine vwp_ret ?_
      simp only [go_sem, Int.reduceEq, Int.reduceLT, Nat.reduceEqDiff, Nat.reduceAdd, Nat.reduceMul, Nat.reduceLT, Nat.reduceLeDiff, Int.reduceToNat]
      exact LeV.of_eq (by rw [List.take_length, hR])
theorem hex_val : ∀ c : UInt8, hexC c = true → (hexV c < 16 ∧ [48, 49, 50, 51, 52, 53, 54, 55, 56, 57, 65, 66, 67, 68, 69, 70].getD (hexV c) 0 = c) := by
  intro c
  have : ∀ n < 256, hexC (UInt8.ofNat n) = true → (hexV (UInt8.ofNat n) < 16 ∧ [48, 49, 50, 51, 52, 53, 54, 55, 56, 57, 65, 66, 67, 68, 69, 70].getD (hexV (UInt8.ofNat n)) 0 = UInt8.ofNat n) := by decide +kernel
  have h := this c.toNat c.toNat_lt
  rwa [UInt8.ofNat_toNat] at h
end Go.Proofs.YtedbbinlcdgkoaaGreatDoor

/- Layer 19: the reference's address and unit. -/
namespace Go.Proofs.YtedbbinlcdgkoaaGreatDoor
open Go.RowKit Go.Lib
-- FUSE
-- LESS
set_option linter.unusedVariables false
set_option linter.unusedSimpArgs false
theorem hex_dig : ∀ d < 16, hexC (hexD d) = true ∧ hexV (hexD d) = d := by decide +kernel
theorem hex_back (n : Nat) (hn : n < 4096) : hexT (hex3 n) = n ∧ (hex3 n).all hexC = true := by
  obtain ⟨a1, a2⟩ := hex_dig (n / 256) (by omega)
  obtain ⟨b1, b2⟩ := hex_dig (n / 16 % 16) (by omega)
  obtain ⟨c1, c2⟩ := hex_dig (n % 16) (by omega)
  unfold hex3 hexT
  constructor
  · simp only [List.foldl_cons, List.foldl_nil, a2, b2, c2]; omega
  · simp only [List.all_cons, List.all_nil, a1, b1, c1]; rfl
theorem hex_three {w : Bs} (h : w.length = 3) (ha : w.all hexC = true) : hex3 (hexT w) = w ∧ hexT w < 4096 := by
  match w, h with
  | [a, b, c], _ =>
    simp only [List.all_cons, List.all_nil, Bool.and_true, Bool.and_eq_true] at ha
    obtain ⟨a1, a2⟩ := hex_val a ha.1
    obtain ⟨b1, b2⟩ := hex_val b ha.2.1
    obtain ⟨c1, c2⟩ := hex_val c ha.2.2
    have ht : hexT [a, b, c] = (hexV a * 16 + hexV b) * 16 + hexV c := by unfold hexT; simp
    have e1 : hexT [a, b, c] / 256 = hexV a := by omega
    have e2 : hexT [a, b, c] / 16 % 16 = hexV b := by omega
    have e3 : hexT [a, b, c] % 16 = hexV c := by omega
    refine ⟨?_, by omega⟩
    unfold hex3
    rw [e1, e2, e3]
    unfold hexD hexS
    rw [a2, b2, c2]
set_option maxHeartbeats 4000000 in
set_option maxRecDepth 4000 in
theorem raddress_spec (w : Bs) : Spec Tryz.prog 104 [.str w] (.int .i64 (addrT w)) := by
  obtain ⟨R, hR⟩ : ∃ R, addrT w = R := ⟨_, rfl⟩
  rw [hR]
  unfold addrT at hR
  by_cases hl : w.length = 3
  · have e3 : decide ((w.length : Int) = 3) = true := decide_eq_true (by omega)
    rw [decide_eq_true hl, Bool.true_and] at hR
    -- up to where no number is the one
    obtain ⟨T, hT1, hT2, hT3⟩ : ∃ T : Nat, T ≤ 4096 ∧ (∀ n < T, hex3 n ≠ w) ∧ ((T < 4096 ∧ hex3 T = w ∧ R = (T : Int)) ∨ (T = 4096 ∧ R = -1)) := by
      cases ha : w.all hexC with
      | true =>
        obtain ⟨h1, h2⟩ := hex_three hl ha
        rw [ha] at hR
        refine ⟨hexT w, by omega, fun n hn q => ?_, .inl ⟨h2, h1, hR.symm⟩⟩
        have := (hex_back n (by omega)).1
        rw [q] at this; omega
      | false =>
        rw [ha] at hR
        refine ⟨4096, by omega, fun n hn q => ?_, .inr ⟨rfl, hR.symm⟩⟩
        have := (hex_back n hn).2
        rw [q, ha] at this; cases this
    refine spec_of tt_ok Tryz.func104 rfl (by decide) Tryz.ntmps104 (congrArg Array.toList Tryz.results104) (by simp) (by decide) rfl rfl (fun F hF => ?_)
    refine vwp_seq_k fun Na hNa => vreg tt_ok hF rfl ?_; simp only [go_sem, Int.reduceEq, Int.reduceLT, Nat.reduceEqDiff, Nat.reduceAdd, Nat.reduceMul, Nat.reduceLT, Nat.reduceLeDiff, Int.reduceToNat]   -- R0
    refine hNa _ (VWp.keep [0] [] ?_); simp only [go_sem, Int.reduceEq, Int.reduceLT, Nat.reduceEqDiff, Nat.reduceAdd, Nat.reduceMul, Nat.reduceLT, Nat.reduceLeDiff, Int.reduceToNat]
    refine vwp_seq_k fun Nb hNb => ?_
    refine vwp_seq_k fun Nc hNc => vreg tt_ok hF rfl ?_; simp only [go_sem, Int.reduceEq, Int.reduceLT, Nat.reduceEqDiff, Nat.reduceAdd, Nat.reduceMul, Nat.reduceLT, Nat.reduceLeDiff, Int.reduceToNat]   -- R1
    refine hNc _ (VWp.keep [0,3] [] ?_); simp only [go_sem, Int.reduceEq, Int.reduceLT, Nat.reduceEqDiff, Nat.reduceAdd, Nat.reduceMul, Nat.reduceLT, Nat.reduceLeDiff, Int.reduceToNat]
    refine vwp_block ?_
    refine vloop (fun k : Nat => [(0, .str w), (3, .int .i64 (k : Int))]) (fun k => []) (fun k => k ≤ T) (fun k => T - k) 0 (by omega) (by simp only [go_sem, Int.reduceEq, Int.reduceLT, Nat.reduceEqDiff, Nat.reduceAdd, Nat.reduceMul, Nat.reduceLT, Nat.reduceLeDiff, Int.reduceToNat]; try trivial) ?_
    intro k hk
    refine vwp_seq_k fun Nd hNd => ?_
    by_cases hk4 : k < 4096
    · have e1 : decide ((k : Int) < 4096) = true := decide_eq_true (by omega)
      have hhx := rhex_spec k hk4
      refine vwp_seq_k fun Ne hNe => vreg tt_ok hF rfl ?_; simp only [go_sem, Int.reduceEq, Int.reduceLT, Nat.reduceEqDiff, Nat.reduceAdd, Nat.reduceMul, Nat.reduceLT, Nat.reduceLeDiff, Int.reduceToNat]   -- R2
      simp only [e1, e3, go_sem, Int.reduceEq, Int.reduceLT, Nat.reduceEqDiff, Nat.reduceAdd, Nat.reduceMul, Nat.reduceLT, Nat.reduceLeDiff, Int.reduceToNat]
      refine hNe _ (VWp.keep [0,3,10] [] ?_); simp only [go_sem, Int.reduceEq, Int.reduceLT, Nat.reduceEqDiff, Nat.reduceAdd, Nat.reduceMul, Nat.reduceLT, Nat.reduceLeDiff, Int.reduceToNat]
      refine vif rfl ⟨fun ht => ?_, (fun hf => by first | cases hf | exact absurd hf (by decide))⟩
      refine vwp_skip (hNd _ ?_)
      refine vwp_seq_k fun Nf hNf => ?_
      refine vwp_block ?_
      by_cases hkT : k < T
      · have ex : decide (hex3 k = w) = false := decide_eq_false (hT2 k hkT)
        refine vwp_seq_k fun Ng hNg => vreg tt_ok hF rfl ?_; simp only [go_sem, Int.reduceEq, Int.reduceLT, Nat.reduceEqDiff, Nat.reduceAdd, Nat.reduceMul, Nat.reduceLT, Nat.reduceLeDiff, Int.reduceToNat]   -- R4
        refine .inl ⟨_, hhx, ?_⟩; try simp only [go_sem, Int.reduceEq, Int.reduceLT, Nat.reduceEqDiff, Nat.reduceAdd, Nat.reduceMul, Nat.reduceLT, Nat.reduceLeDiff, Int.reduceToNat]
        simp only [ex, go_sem, Int.reduceEq, Int.reduceLT, Nat.reduceEqDiff, Nat.reduceAdd, Nat.reduceMul, Nat.reduceLT, Nat.reduceLeDiff, Int.reduceToNat]
        refine hNg _ (VWp.keep [0,3,16] [] ?_); simp only [go_sem, Int.reduceEq, Int.reduceLT, Nat.reduceEqDiff, Nat.reduceAdd, Nat.reduceMul, Nat.reduceLT, Nat.reduceLeDiff, Int.reduceToNat]
        refine vif rfl ⟨(fun hf => by first | cases hf | exact absurd hf (by decide)), fun ht => ?_⟩
        refine vwp_skip (hNf _ ?_)
        refine vreg tt_ok hF rfl ?_; simp only [go_sem, Int.reduceEq, Int.reduceLT, Nat.reduceEqDiff, Nat.reduceAdd, Nat.reduceMul, Nat.reduceLT, Nat.reduceLeDiff, Int.reduceToNat]   -- R3
        rw [wrap_i64 (by omega) (by omega)]
        exact ⟨k + 1, by omega, by omega, by simp⟩
      · have hkT : k = T := by omega
        subst hkT
        rcases hT3 with ⟨q1, q2, q3⟩ | ⟨q1, q2⟩
        · have ex : decide (hex3 k = w) = true := decide_eq_true q2
          refine vwp_seq_k fun Ng hNg => vreg tt_ok hF rfl ?_; simp only [go_sem, Int.reduceEq, Int.reduceLT, Nat.reduceEqDiff, Nat.reduceAdd, Nat.reduceMul, Nat.reduceLT, Nat.reduceLeDiff, Int.reduceToNat]   -- R4
          refine .inl ⟨_, hhx, ?_⟩; try simp only [go_sem, Int.reduceEq, Int.reduceLT, Nat.reduceEqDiff, Nat.reduceAdd, Nat.reduceMul, Nat.reduceLT, Nat.reduceLeDiff, Int.reduceToNat]
          simp only [ex, go_sem, Int.reduceEq, Int.reduceLT, Nat.reduceEqDiff, Nat.reduceAdd, Nat.reduceMul, Nat.reduceLT, Nat.reduceLeDiff, Int.reduceToNat]
          refine hNg _ (VWp.keep [0,3,16] [] ?_); simp only [go_sem, Int.reduceEq, Int.reduceLT, Nat.reduceEqDiff, Nat.reduceAdd, Nat.reduceMul, Nat.reduceLT, Nat.reduceLeDiff, Int.reduceToNat]
          refine vif rfl ⟨fun ht => ?_, (fun hf => by first | cases hf | exact absurd hf (by decide))⟩
          refine vwp_seq_k fun Nh hNh => vreg tt_ok hF rfl ?_; simp only [go_sem, Int.reduceEq, Int.reduceLT, Nat.reduceEqDiff, Nat.reduceAdd, Nat.reduceMul, Nat.reduceLT, Nat.reduceLeDiff, Int.reduceToNat]   -- R5
          refine hNh _ (VWp.keep [2] [] ?_); simp only [go_sem, Int.reduceEq, Int.reduceLT, Nat.reduceEqDiff, Nat.reduceAdd, Nat.reduceMul, Nat.reduceLT, Nat.reduceLeDiff, Int.reduceToNat]
          refine vwp_ret ?_
          simp only [go_sem, Int.reduceEq, Int.reduceLT, Nat.reduceEqDiff, Nat.reduceAdd, Nat.reduceMul, Nat.reduceLT, Nat.reduceLeDiff, Int.reduceToNat]
          exact LeV.of_eq (by rw [q3])
        · omega
    · have e1 : decide ((k : Int) < 4096) = false := decide_eq_false (by omega)
      have hR1 : R = -1 := by
        rcases hT3 with ⟨q1, q2, q3⟩ | ⟨q1, q2⟩
        · omega
        · exact q2
      refine vwp_seq_k fun Ne hNe => vreg tt_ok hF rfl ?_; simp only [go_sem, Int.reduceEq, Int.reduceLT, Nat.reduceEqDiff, Nat.reduceAdd, Nat.reduceMul, Nat.reduceLT, Nat.reduceLeDiff, Int.reduceToNat]   -- R2
      simp only [e1, go_sem, Int.reduceEq, Int.reduceLT, Nat.reduceEqDiff, Nat.reduceAdd, Nat.reduceMul, Nat.reduceLT, Nat.reduceLeDiff, Int.reduceToNat]
      refine hNe _ (VWp.keep [0,3,10] [] ?_); simp only [go_sem, Int.reduceEq, Int.reduceLT, Nat.reduceEqDiff, Nat.reduceAdd, Nat.reduceMul, Nat.reduceLT, Nat.reduceLeDiff, Int.reduceToNat]
      refine vif rfl ⟨(fun hf => by first | cases hf | exact absurd hf (by decide)), fun ht => ?_⟩
      refine vwp_exit ?_
      simp only [go_sem, Int.reduceEq, Int.reduceLT, Nat.reduceEqDiff, Nat.reduceAdd, Nat.reduceMul, Nat.reduceLT, Nat.reduceLeDiff, Int.reduceToNat]
      refine hNb _ (VWp.keepR [] [] tt_ok hF rfl fun Ni hNi => ?_); simp only [go_sem, Int.reduceEq, Int.reduceLT, Nat.reduceEqDiff, Nat.reduceAdd, Nat.reduceMul, Nat.reduceLT, Nat.reduceLeDiff, Int.reduceToNat]   -- R6
      refine hNi _ (VWp.keep [2] [] ?_); simp only [go_sem, Int.reduceEq, Int.reduceLT, Nat.reduceEqDiff, Nat.reduceAdd, Nat.reduceMul, Nat.reduceLT, Nat.reduceLeDiff, Int.reduceToNat]
      refine vwp_ret ?_
      simp only [go_sem, Int.reduceEq, Int.reduceLT, Nat.reduceEqDiff, Nat.reduceAdd, Nat.reduceMul, Nat.reduceLT, Nat.reduceLeDiff, Int.reduceToNat]
      exact LeV.of_eq (by rw [hR1])
  · rw [decide_eq_false hl, Bool.false_and] at hR
    have hR : R = -1 := hR.symm
    subst hR
    have e3 : decide ((w.length : Int) = 3) = false := decide_eq_false (by omega)
    refine spec_of tt_ok Tryz.func104 rfl (by decide) Tryz.ntmps104 (congrArg Array.toList Tryz.results104) (by simp) (by decide) rfl rfl (fun F hF => ?_)
    refine vwp_seq_k fun Na hNa => vreg tt_ok hF rfl ?_; simp only [go_sem, Int.reduceEq, Int.reduceLT, Nat.reduceEqDiff, Nat.reduceAdd, Nat.reduceMul, Nat.reduceLT, Nat.reduceLeDiff, Int.reduceToNat]   -- R0
    refine hNa _ (VWp.keep [0] [] ?_); simp only [go_sem, Int.reduceEq, Int.reduceLT, Nat.reduceEqDiff, Nat.reduceAdd, Nat.reduceMul, Nat.reduceLT, Nat.reduceLeDiff, Int.reduceToNat]
    refine vwp_seq_k fun Nb hNb => ?_
    refine vwp_seq_k fun Nc hNc => vreg tt_ok hF rfl ?_; simp only [go_sem, Int.reduceEq, Int.reduceLT, Nat.reduceEqDiff, Nat.reduceAdd, Nat.reduceMul, Nat.reduceLT, Nat.reduceLeDiff, Int.reduceToNat]   -- R1
    refine hNc _ (VWp.keep [0,3] [] ?_); simp only [go_sem, Int.reduceEq, Int.reduceLT, Nat.reduceEqDiff, Nat.reduceAdd, Nat.reduceMul, Nat.reduceLT, Nat.reduceLeDiff, Int.reduceToNat]
    refine vwp_block ?_
    refine vloop (fun k : Nat => [(0, .str w), (3, .int .i64 0)]) (fun k => []) (fun k => k ≤ 0) (fun k => 0 - k) 0 (by omega) (by simp only [go_sem, Int.reduceEq, Int.reduceLT, Nat.reduceEqDiff, Nat.reduceAdd, Nat.reduceMul, Nat.reduceLT, Nat.reduceLeDiff, Int.reduceToNat]; try trivial) ?_
    intro k hk
    refine vwp_seq_k fun Nd hNd => ?_
    refine vwp_seq_k fun Ne hNe => vreg tt_ok hF rfl ?_; simp only [go_sem, Int.reduceEq, Int.reduceLT, Nat.reduceEqDiff, Nat.reduceAdd, Nat.reduceMul, Nat.reduceLT, Nat.reduceLeDiff, Int.reduceToNat]   -- R2
    simp only [e3, go_sem, Int.reduceEq, Int.reduceLT, Nat.reduceEqDiff, Nat.reduceAdd, Nat.reduceMul, Nat.reduceLT, Nat.reduceLeDiff, Int.reduceToNat]
    refine hNe _ (VWp.keep [0,3,10] [] ?_); simp only [go_sem, Int.reduceEq, Int.reduceLT, Nat.reduceEqDiff, Nat.reduceAdd, Nat.reduceMul, Nat.reduceLT, Nat.reduceLeDiff, Int.reduceToNat]
    refine vif rfl ⟨(fun hf => by first | cases hf | exact absurd hf (by decide)), fun ht => ?_⟩
    refine vwp_exit ?_
    simp only [go_sem, Int.reduceEq, Int.reduceLT, Nat.reduceEqDiff, Nat.reduceAdd, Nat.reduceMul, Nat.reduceLT, Nat.reduceLeDiff, Int.reduceToNat]
    refine hNb _ (VWp.keepR [] [] tt_ok hF rfl fun Ni hNi => ?_); simp only [go_sem, Int.reduceEq, Int.reduceLT, Nat.reduceEqDiff, Nat.reduceAdd, Nat.reduceMul, Nat.reduceLT, Nat.reduceLeDiff, Int.reduceToNat]   -- R6
    refine hNi _ (VWp.keep [2] [] ?_); simp only [go_sem, Int.reduceEq, Int.reduceLT, Nat.reduceEqDiff, Nat.reduceAdd, Nat.reduceMul, Nat.reduceLT, Nat.reduceLeDiff, Int.reduceToNat]
    (refine vwp_ret ?_; simp only [go_sem, Int.reduceEq, Int.reduceLT, Nat.reduceEqDiff, Nat.reduceAdd, Nat.reduceMul, Nat.reduceLT, Nat.reduceLeDiff, Int.reduceToNat]; first | exact LeV.refl _ | exact LeV.of_eq (by simp))
theorem kind_cases (w : Bs) : (w = [82, 69, 65, 68, 69, 82] ∧ kindT w = 1) ∨ (w = [80, 85, 78, 67, 72] ∧ kindT w = 2) ∨ (w = [80, 82, 73, 78, 84, 69, 82] ∧ kindT w = 3) ∨ (w = [84, 65, 80, 69] ∧ kindT w = 4) ∨ (w = [68, 73, 83, 75] ∧ kindT w = 5) ∨
    (w ≠ [82, 69, 65, 68, 69, 82] ∧ w ≠ [80, 85, 78, 67, 72] ∧ w ≠ [80, 82, 73, 78, 84, 69, 82] ∧ w ≠ [84, 65, 80, 69] ∧ w ≠ [68, 73, 83, 75] ∧ kindT w = 0) := by
  unfold kindT
  by_cases h1 : w = [82, 69, 65, 68, 69, 82]
  · exact .inl ⟨h1, if_pos h1⟩
  · rw [if_neg h1]
    by_cases h2 : w = [80, 85, 78, 67, 72]
    · exact .inr (.inl ⟨h2, if_pos h2⟩)
    · rw [if_neg h2]
      by_cases h3 : w = [80, 82, 73, 78, 84, 69, 82]
      · exact .inr (.inr (.inl ⟨h3, if_pos h3⟩))
      · rw [if_neg h3]
        by_cases h4 : w = [84, 65, 80, 69]
        · exact .inr (.inr (.inr (.inl ⟨h4, if_pos h4⟩)))
        · rw [if_neg h4]
          by_cases h5 : w = [68, 73, 83, 75]
          · exact .inr (.inr (.inr (.inr (.inl ⟨h5, if_pos h5⟩))))
          · rw [if_neg h5]
            exact .inr (.inr (.inr (.inr (.inr ⟨h1, h2, h3, h4, h5, rfl⟩))))
def runitT (l : List Bs) : UniT × Bool := if 3 ≤ l.length ∧ kindT (l.getD 2 []) ≠ 0 ∧ l.length = wantT (kindT (l.getD 2 [])) then (unitL l, unitT (unitL l)) else (zeroU, false)
def runitV (r : UniT × Bool) : V := .tup [.agg (uniC r.1), .bool r.2]
theorem get_row {l : List Bs} {k : Nat} (h : k < l.length) : (l.map strR).getD k [] = [.str (l.getD k [])] := by
  rw [str_row h]
  simp [List.getD_eq_getElem?_getD, List.getElem?_eq_getElem h]
theorem get_len {l : List Bs} (hl : ∀ s ∈ l, s.length ≤ 1000000) (k : Nat) : (l.getD k []).length ≤ 1000000 := by
  by_cases h : k < l.length
  · have : l.getD k [] = l[k] := by simp [List.getD_eq_getElem?_getD, List.getElem?_eq_getElem h]
    rw [this]; exact hl _ (List.getElem_mem h)
  · have : l.getD k [] = [] := by simp [List.getD_eq_getElem?_getD, List.getElem?_eq_none (show l.length ≤ k by omega)]
    rw [this]; simp
set_option maxHeartbeats 16000000 in
set_option maxRecDepth 4000 in
theorem runit_spec (l : List Bs) (hl : ∀ s ∈ l, s.length ≤ 1000000) (hn : l.length ≤ 1000000) : Spec Tryz.prog 78 [.sl 1 (l.map strR)] (runitV (runitT l)) := by
  obtain ⟨⟨U, ub⟩, hU⟩ : ∃ r, runitT l = r := ⟨_, rfl⟩
  rw [hU]
  unfold runitV uniC
  by_cases h3 : 3 ≤ l.length
  · have g1 := get_row (l := l) (k := 1) (by omega)
    have g2 := get_row (l := l) (k := 2) (by omega)
    have had := raddress_spec (l.getD 1 [])
    have e1 : decide ((l.length : Int) < 3) = false := decide_eq_false (by omega)
    obtain ⟨w1, hw1⟩ : ∃ w, l.getD 1 [] = w := ⟨_, rfl⟩
    obtain ⟨w2, hw2⟩ : ∃ w, l.getD 2 [] = w := ⟨_, rfl⟩
    rw [hw1] at had g1; rw [hw2] at g2
    have hul : unitL l = ⟨addrT w1, kindT w2, if 3 < wantT (kindT w2) then l.getD 3 [] else [], if 4 < wantT (kindT w2) then numT (l.getD 4 []) else 0, if 4 < wantT (kindT w2) then numT (l.getD 5 []) else 0⟩ := by unfold unitL; rw [hw1, hw2]
    have hrl : runitT l = if 3 ≤ l.length ∧ kindT w2 ≠ 0 ∧ l.length = wantT (kindT w2) then (unitL l, unitT (unitL l)) else (zeroU, false) := by unfold runitT; rw [hw2]
    obtain ⟨A, hA⟩ : ∃ A, addrT w1 = A := ⟨_, rfl⟩
    rw [hA] at had hul
    have hsl : (unitL l).ser.length ≤ 1000000 := by
      rw [hul]; simp only
      split
      · exact get_len hl 3
      · simp
    have hun := rUnit_spec (unitL l) hsl
    refine spec_of tt_ok Tryz.func78 rfl (by decide) Tryz.ntmps78 (congrArg Array.toList Tryz.results78) (by simp) (by decide) rfl rfl (fun F hF => ?_)
    refine vwp_seq_k fun Na hNa => vreg tt_ok hF rfl ?_; simp only [go_sem, Int.reduceEq, Int.reduceLT, Nat.reduceEqDiff, Nat.reduceAdd, Nat.reduceMul, Nat.reduceLT, Nat.reduceLeDiff, Int.reduceToNat]
    refine hNa _ (VWp.keep [0,2] [2] ?_); simp only [go_sem, Int.reduceEq, Int.reduceLT, Nat.reduceEqDiff, Nat.reduceAdd, Nat.reduceMul, Nat.reduceLT, Nat.reduceLeDiff, Int.reduceToNat]
    refine vwp_seq_k fun Nb hNb => ?_
    refine vwp_seq_k fun Nc hNc => vreg tt_ok hF rfl ?_; simp only [List.length_map, e1, go_sem, Int.reduceEq, Int.reduceLT, Nat.reduceEqDiff, Nat.reduceAdd, Nat.reduceMul, Nat.reduceLT, Nat.reduceLeDiff, Int.reduceToNat]
    refine hNc _ (VWp.keep [0,2,7] [2] ?_); simp only [go_sem, Int.reduceEq, Int.reduceLT, Nat.reduceEqDiff, Nat.reduceAdd, Nat.reduceMul, Nat.reduceLT, Nat.reduceLeDiff, Int.reduceToNat]
    refine vif rfl ⟨(fun hf => by first | cases hf | exact absurd hf (by decide)), fun ht => ?_⟩
    refine vwp_skip (hNb _ ?_)
    refine vwp_seq_k fun Ne hNe => vreg tt_ok hF rfl ?_; simp only [List.length_map, g1, go_sem, Int.reduceEq, Int.reduceLT, Nat.reduceEqDiff, Nat.reduceAdd, Nat.reduceMul, Nat.reduceLT, Nat.reduceLeDiff, Int.reduceToNat]
    refine ⟨by omega, ?_⟩
    refine .inl ⟨_, had, ?_⟩; try simp only [go_sem, Int.reduceEq, Int.reduceLT, Nat.reduceEqDiff, Nat.reduceAdd, Nat.reduceMul, Nat.reduceLT, Nat.reduceLeDiff, Int.reduceToNat]
    refine hNe _ (VWp.keep [0,2,4] [2,4] ?_); simp only [go_sem, Int.reduceEq, Int.reduceLT, Nat.reduceEqDiff, Nat.reduceAdd, Nat.reduceMul, Nat.reduceLT, Nat.reduceLeDiff, Int.reduceToNat]
    refine vwp_seq_k fun Nf hNf => ?_
    refine vwp_block ?_
    refine vmeet (fun z : Bool => [(0, .sl 1 (l.map strR)), (2, .ptr 2 0), (4, .ptr 4 0), (15, .bool z)]) (fun _ => [(2, .box 58 [.int .i64 0, .int .i64 0, .str [], .int .i64 0, .int .i64 0]), (4, .box 58 [.int .i64 A, .int .i64 0, .str [], .int .i64 0, .int .i64 0])]) (fun z => z = (decide (w2 = ([82, 69, 65, 68, 69, 82] : Bs)) && decide ((l.length : Int) = 3))) ?_ ?_
    · rcases q1 : decide (w2 = ([82, 69, 65, 68, 69, 82] : Bs)) with _ | _
      · refine vreg tt_ok hF rfl ?_
        simp only [List.length_map, g2, q1, go_sem, Int.reduceEq, Int.reduceLT, Nat.reduceEqDiff, Nat.reduceAdd, Nat.reduceMul, Nat.reduceLT, Nat.reduceLeDiff, Int.reduceToNat]
        refine ⟨by omega, ?_⟩
        exact ⟨false, rfl, by simp only [go_sem, Int.reduceEq, Int.reduceLT, Nat.reduceEqDiff, Nat.reduceAdd, Nat.reduceMul, Nat.reduceLT, Nat.reduceLeDiff, Int.reduceToNat]; try trivial⟩
      · refine vreg tt_ok hF rfl ?_
        simp only [List.length_map, g2, q1, go_sem, Int.reduceEq, Int.reduceLT, Nat.reduceEqDiff, Nat.reduceAdd, Nat.reduceMul, Nat.reduceLT, Nat.reduceLeDiff, Int.reduceToNat]
        refine ⟨by omega, ?_⟩
        exact ⟨_, rfl, by simp only [go_sem, Int.reduceEq, Int.reduceLT, Nat.reduceEqDiff, Nat.reduceAdd, Nat.reduceMul, Nat.reduceLT, Nat.reduceLeDiff, Int.reduceToNat]; try trivial⟩
    rintro z1 hz1
    refine vif rfl ⟨fun ht => ?_, fun hx1 => ?_⟩
    · rw [ht] at hz1
      obtain ⟨c, hq⟩ := Bool.and_eq_true_iff.1 hz1.symm
      have c := of_decide_eq_true c
      have hq : l.length = 3 := by have := of_decide_eq_true hq; omega
      subst c
      have hk : kindT ([82, 69, 65, 68, 69, 82] : Bs) = 1 := rfl
      rw [hk] at hul hrl
      rw [if_pos ⟨h3, by decide, by rw [hq]; rfl⟩] at hrl
      have hul : unitL l = ⟨A, 1, [], 0, 0⟩ := hul
      rw [hrl] at hU
      injection hU with q1 q2
      rw [q2] at hun
      rw [hul] at hun q1
      subst q1
      unfold uniC at hun
      refine vreg tt_ok hF rfl ?_; simp only [go_sem, Int.reduceEq, Int.reduceLT, Nat.reduceEqDiff, Nat.reduceAdd, Nat.reduceMul, Nat.reduceLT, Nat.reduceLeDiff, Int.reduceToNat]
      refine hNf _ (VWp.keep [2,4] [2,4] ?_); simp only [go_sem, Int.reduceEq, Int.reduceLT, Nat.reduceEqDiff, Nat.reduceAdd, Nat.reduceMul, Nat.reduceLT, Nat.reduceLeDiff, Int.reduceToNat]
      refine vwp_seq_k fun Nh hNh => vregd tt_ok mixed hF rfl (by kernel_rfl) (by kernel_rfl) ?_; simp only [go_sem, Int.reduceEq, Int.reduceLT, Nat.reduceEqDiff, Nat.reduceAdd, Nat.reduceMul, Nat.reduceLT, Nat.reduceLeDiff, Int.reduceToNat]
      refine .inl ⟨_, hun, ?_⟩; try simp only [go_sem, Int.reduceEq, Int.reduceLT, Nat.reduceEqDiff, Nat.reduceAdd, Nat.reduceMul, Nat.reduceLT, Nat.reduceLeDiff, Int.reduceToNat]
      refine hNh _ (VWp.keep [2,3] [2] ?_); simp only [go_sem, Int.reduceEq, Int.reduceLT, Nat.reduceEqDiff, Nat.reduceAdd, Nat.reduceMul, Nat.reduceLT, Nat.reduceLeDiff, Int.reduceToNat]
      (refine vwp_ret ?_; simp only [go_sem, Int.reduceEq, Int.reduceLT, Nat.reduceEqDiff, Nat.reduceAdd, Nat.reduceMul, Nat.reduceLT, Nat.reduceLeDiff, Int.reduceToNat]; first | exact LeV.refl _ | exact LeV.of_eq (by simp))
    · rw [hx1] at hz1
      refine vmeet (fun z : Bool => [(0, .sl 1 (l.map strR)), (2, .ptr 2 0), (4, .ptr 4 0), (26, .bool z)]) (fun _ => [(2, .box 58 [.int .i64 0, .int .i64 0, .str [], .int .i64 0, .int .i64 0]), (4, .box 58 [.int .i64 A, .int .i64 0, .str [], .int .i64 0, .int .i64 0])]) (fun z => z = (decide (w2 = ([80, 85, 78, 67, 72] : Bs)) && decide ((l.length : Int) = 3))) ?_ ?_
      · rcases q1 : decide (w2 = ([80, 85, 78, 67, 72] : Bs)) with _ | _
        · refine vreg tt_ok hF rfl ?_
          simp only [List.length_map, g2, q1, go_sem, Int.reduceEq, Int.reduceLT, Nat.reduceEqDiff, Nat.reduceAdd, Nat.reduceMul, Nat.reduceLT, Nat.reduceLeDiff, Int.reduceToNat]
          refine ⟨by omega, ?_⟩
          exact ⟨false, rfl, by simp only [go_sem, Int.reduceEq, Int.reduceLT, Nat.reduceEqDiff, Nat.reduceAdd, Nat.reduceMul, Nat.reduceLT, Nat.reduceLeDiff, Int.reduceToNat]; try trivial⟩
        · refine vreg tt_ok hF rfl ?_
          simp only [List.length_map, g2, q1, go_sem, Int.reduceEq, Int.reduceLT, Nat.reduceEqDiff, Nat.reduceAdd, Nat.reduceMul, Nat.reduceLT, Nat.reduceLeDiff, Int.reduceToNat]
          refine ⟨by omega, ?_⟩
          exact ⟨_, rfl, by simp only [go_sem, Int.reduceEq, Int.reduceLT, Nat.reduceEqDiff, Nat.reduceAdd, Nat.reduceMul, Nat.reduceLT, Nat.reduceLeDiff, Int.reduceToNat]; try trivial⟩
      rintro z2 hz2
      refine vif rfl ⟨fun ht => ?_, fun hx2 => ?_⟩
      · rw [ht] at hz2
        obtain ⟨c, hq⟩ := Bool.and_eq_true_iff.1 hz2.symm
        have c := of_decide_eq_true c
        have hq : l.length = 3 := by have := of_decide_eq_true hq; omega
        subst c
        have hk : kindT ([80, 85, 78, 67, 72] : Bs) = 2 := rfl
        rw [hk] at hul hrl
        rw [if_pos ⟨h3, by decide, by rw [hq]; rfl⟩] at hrl
        have hul : unitL l = ⟨A, 2, [], 0, 0⟩ := hul
        rw [hrl] at hU
        injection hU with q1 q2
        rw [q2] at hun
        rw [hul] at hun q1
        subst q1
        unfold uniC at hun
        refine vreg tt_ok hF rfl ?_; simp only [go_sem, Int.reduceEq, Int.reduceLT, Nat.reduceEqDiff, Nat.reduceAdd, Nat.reduceMul, Nat.reduceLT, Nat.reduceLeDiff, Int.reduceToNat]
        refine hNf _ (VWp.keep [2,4] [2,4] ?_); simp only [go_sem, Int.reduceEq, Int.reduceLT, Nat.reduceEqDiff, Nat.reduceAdd, Nat.reduceMul, Nat.reduceLT, Nat.reduceLeDiff, Int.reduceToNat]
        refine vwp_seq_k fun Nh hNh => vregd tt_ok mixed hF rfl (by kernel_rfl) (by kernel_rfl) ?_; simp only [go_sem, Int.reduceEq, Int.reduceLT, Nat.reduceEqDiff, Nat.reduceAdd, Nat.reduceMul, Nat.reduceLT, Nat.reduceLeDiff, Int.reduceToNat]
        refine .inl ⟨_, hun, ?_⟩; try simp only [go_sem, Int.reduceEq, Int.reduceLT, Nat.reduceEqDiff, Nat.reduceAdd, Nat.reduceMul, Nat.reduceLT, Nat.reduceLeDiff, Int.reduceToNat]
        refine hNh _ (VWp.keep [2,3] [2] ?_); simp only [go_sem, Int.reduceEq, Int.reduceLT, Nat.reduceEqDiff, Nat.reduceAdd, Nat.reduceMul, Nat.reduceLT, Nat.reduceLeDiff, Int.reduceToNat]
        (refine vwp_ret ?_; simp only [go_sem, Int.reduceEq, Int.reduceLT, Nat.reduceEqDiff, Nat.reduceAdd, Nat.reduceMul, Nat.reduceLT, Nat.reduceLeDiff, Int.reduceToNat]; first | exact LeV.refl _ | exact LeV.of_eq (by simp))
      · rw [hx2] at hz2
        refine vmeet (fun z : Bool => [(0, .sl 1 (l.map strR)), (2, .ptr 2 0), (4, .ptr 4 0), (37, .bool z)]) (fun _ => [(2, .box 58 [.int .i64 0, .int .i64 0, .str [], .int .i64 0, .int .i64 0]), (4, .box 58 [.int .i64 A, .int .i64 0, .str [], .int .i64 0, .int .i64 0])]) (fun z => z = (decide (w2 = ([80, 82, 73, 78, 84, 69, 82] : Bs)) && decide ((l.length : Int) = 3))) ?_ ?_
        · rcases q1 : decide (w2 = ([80, 82, 73, 78, 84, 69, 82] : Bs)) with _ | _
          · refine vreg tt_ok hF rfl ?_
            simp only [List.length_map, g2, q1, go_sem, Int.reduceEq, Int.reduceLT, Nat.reduceEqDiff, Nat.reduceAdd, Nat.reduceMul, Nat.reduceLT, Nat.reduceLeDiff, Int.reduceToNat]
            refine ⟨by omega, ?_⟩
            exact ⟨false, rfl, by simp only [go_sem, Int.reduceEq, Int.reduceLT, Nat.reduceEqDiff, Nat.reduceAdd, Nat.reduceMul, Nat.reduceLT, Nat.reduceLeDiff, Int.reduceToNat]; try trivial⟩
          · refine vreg tt_ok hF rfl ?_
            simp only [List.length_map, g2, q1, go_sem, Int.reduceEq, Int.reduceLT, Nat.reduceEqDiff, Nat.reduceAdd, Nat.reduceMul, Nat.reduceLT, Nat.reduceLeDiff, Int.reduceToNat]
            refine ⟨by omega, ?_⟩
            exact ⟨_, rfl, by simp only [go_sem, Int.reduceEq, Int.reduceLT, Nat.reduceEqDiff, Nat.reduceAdd, Nat.reduceMul, Nat.reduceLT, Nat.reduceLeDiff, Int.reduceToNat]; try trivial⟩
        rintro z3 hz3
        refine vif rfl ⟨fun ht => ?_, fun hx3 => ?_⟩
        · rw [ht] at hz3
          obtain ⟨c, hq⟩ := Bool.and_eq_true_iff.1 hz3.symm
          have c := of_decide_eq_true c
          have hq : l.length = 3 := by have := of_decide_eq_true hq; omega
          subst c
          have hk : kindT ([80, 82, 73, 78, 84, 69, 82] : Bs) = 3 := rfl
          rw [hk] at hul hrl
          rw [if_pos ⟨h3, by decide, by rw [hq]; rfl⟩] at hrl
          have hul : unitL l = ⟨A, 3, [], 0, 0⟩ := hul
          rw [hrl] at hU
          injection hU with q1 q2
          rw [q2] at hun
          rw [hul] at hun q1
          subst q1
          unfold uniC at hun
          refine vreg tt_ok hF rfl ?_; simp only [go_sem, Int.reduceEq, Int.reduceLT, Nat.reduceEqDiff, Nat.reduceAdd, Nat.reduceMul, Nat.reduceLT, Nat.reduceLeDiff, Int.reduceToNat]
          refine hNf _ (VWp.keep [2,4] [2,4] ?_); simp only [go_sem, Int.reduceEq, Int.reduceLT, Nat.reduceEqDiff, Nat.reduceAdd, Nat.reduceMul, Nat.reduceLT, Nat.reduceLeDiff, Int.reduceToNat]
          refine vwp_seq_k fun Nh hNh => vregd tt_ok mixed hF rfl (by kernel_rfl) (by kernel_rfl) ?_; simp only [go_sem, Int.reduceEq, Int.reduceLT, Nat.reduceEqDiff, Nat.reduceAdd, Nat.reduceMul, Nat.reduceLT, Nat.reduceLeDiff, Int.reduceToNat]
          refine .inl ⟨_, hun, ?_⟩; try simp only [go_sem, Int.reduceEq, Int.reduceLT, Nat.reduceEqDiff, Nat.reduceAdd, Nat.reduceMul, Nat.reduceLT, Nat.reduceLeDiff, Int.reduceToNat]
          refine hNh _ (VWp.keep [2,3] [2] ?_); simp only [go_sem, Int.reduceEq, Int.reduceLT, Nat.reduceEqDiff, Nat.reduceAdd, Nat.reduceMul, Nat.reduceLT, Nat.reduceLeDiff, Int.reduceToNat]
          (refine vwp_ret ?_; simp only [go_sem, Int.reduceEq, Int.reduceLT, Nat.reduceEqDiff, Nat.reduceAdd, Nat.reduceMul, Nat.reduceLT, Nat.reduceLeDiff, Int.reduceToNat]; first | exact LeV.refl _ | exact LeV.of_eq (by simp))
        · rw [hx3] at hz3
          refine vmeet (fun z : Bool => [(0, .sl 1 (l.map strR)), (2, .ptr 2 0), (4, .ptr 4 0), (48, .bool z)]) (fun _ => [(2, .box 58 [.int .i64 0, .int .i64 0, .str [], .int .i64 0, .int .i64 0]), (4, .box 58 [.int .i64 A, .int .i64 0, .str [], .int .i64 0, .int .i64 0])]) (fun z => z = (decide (w2 = ([84, 65, 80, 69] : Bs)) && decide ((l.length : Int) = 4))) ?_ ?_
          · rcases q1 : decide (w2 = ([84, 65, 80, 69] : Bs)) with _ | _
            · refine vreg tt_ok hF rfl ?_
              simp only [List.length_map, g2, q1, go_sem, Int.reduceEq, Int.reduceLT, Nat.reduceEqDiff, Nat.reduceAdd, Nat.reduceMul, Nat.reduceLT, Nat.reduceLeDiff, Int.reduceToNat]
              refine ⟨by omega, ?_⟩
              exact ⟨false, rfl, by simp only [go_sem, Int.reduceEq, Int.reduceLT, Nat.reduceEqDiff, Nat.reduceAdd, Nat.reduceMul, Nat.reduceLT, Nat.reduceLeDiff, Int.reduceToNat]; try trivial⟩
            · refine vreg tt_ok hF rfl ?_
              simp only [List.length_map, g2, q1, go_sem, Int.reduceEq, Int.reduceLT, Nat.reduceEqDiff, Nat.reduceAdd, Nat.reduceMul, Nat.reduceLT, Nat.reduceLeDiff, Int.reduceToNat]
              refine ⟨by omega, ?_⟩
              exact ⟨_, rfl, by simp only [go_sem, Int.reduceEq, Int.reduceLT, Nat.reduceEqDiff, Nat.reduceAdd, Nat.reduceMul, Nat.reduceLT, Nat.reduceLeDiff, Int.reduceToNat]; try trivial⟩
          rintro z4 hz4
          refine vif rfl ⟨fun ht => ?_, fun hx4 => ?_⟩
          · rw [ht] at hz4
            obtain ⟨c, hq⟩ := Bool.and_eq_true_iff.1 hz4.symm
            have c := of_decide_eq_true c
            have hq : l.length = 4 := by have := of_decide_eq_true hq; omega
            subst c
            have hk : kindT ([84, 65, 80, 69] : Bs) = 4 := rfl
            rw [hk] at hul hrl
            rw [if_pos ⟨h3, by decide, by rw [hq]; rfl⟩] at hrl
            have g3 := get_row (l := l) (k := 3) (by omega)
            obtain ⟨w3, hw3⟩ : ∃ w, l.getD 3 [] = w := ⟨_, rfl⟩
            rw [hw3] at g3 hul
            have hul : unitL l = ⟨A, 4, w3, 0, 0⟩ := hul
            rw [hrl] at hU
            injection hU with q1 q2
            rw [q2] at hun
            rw [hul] at hun q1
            subst q1
            unfold uniC at hun
            refine vwp_seq_k fun Nl hNl => vreg tt_ok hF rfl ?_; simp only [go_sem, Int.reduceEq, Int.reduceLT, Nat.reduceEqDiff, Nat.reduceAdd, Nat.reduceMul, Nat.reduceLT, Nat.reduceLeDiff, Int.reduceToNat]
            refine hNl _ (VWp.keep [0,2,4] [2,4] ?_); simp only [go_sem, Int.reduceEq, Int.reduceLT, Nat.reduceEqDiff, Nat.reduceAdd, Nat.reduceMul, Nat.reduceLT, Nat.reduceLeDiff, Int.reduceToNat]
            refine vreg tt_ok hF rfl ?_
            simp only [List.length_map, g3, go_sem, Int.reduceEq, Int.reduceLT, Nat.reduceEqDiff, Nat.reduceAdd, Nat.reduceMul, Nat.reduceLT, Nat.reduceLeDiff, Int.reduceToNat]
            refine ⟨by omega, ?_⟩
            refine hNf _ (VWp.keep [2,4] [2,4] ?_); simp only [go_sem, Int.reduceEq, Int.reduceLT, Nat.reduceEqDiff, Nat.reduceAdd, Nat.reduceMul, Nat.reduceLT, Nat.reduceLeDiff, Int.reduceToNat]
            refine vwp_seq_k fun Nh hNh => vregd tt_ok mixed hF rfl (by kernel_rfl) (by kernel_rfl) ?_; simp only [go_sem, Int.reduceEq, Int.reduceLT, Nat.reduceEqDiff, Nat.reduceAdd, Nat.reduceMul, Nat.reduceLT, Nat.reduceLeDiff, Int.reduceToNat]
            refine .inl ⟨_, hun, ?_⟩; try simp only [go_sem, Int.reduceEq, Int.reduceLT, Nat.reduceEqDiff, Nat.reduceAdd, Nat.reduceMul, Nat.reduceLT, Nat.reduceLeDiff, Int.reduceToNat]
            refine hNh _ (VWp.keep [2,3] [2] ?_); simp only [go_sem, Int.reduceEq, Int.reduceLT, Nat.reduceEqDiff, Nat.reduceAdd, Nat.reduceMul, Nat.reduceLT, Nat.reduceLeDiff, Int.reduceToNat]
            (refine vwp_ret ?_; simp only [go_sem, Int.reduceEq, Int.reduceLT, Nat.reduceEqDiff, Nat.reduceAdd, Nat.reduceMul, Nat.reduceLT, Nat.reduceLeDiff, Int.reduceToNat]; first | exact LeV.refl _ | exact LeV.of_eq (by simp))
          · rw [hx4] at hz4
            refine vmeet (fun z : Bool => [(0, .sl 1 (l.map strR)), (2, .ptr 2 0), (4, .ptr 4 0), (63, .bool z)]) (fun _ => [(2, .box 58 [.int .i64 0, .int .i64 0, .str [], .int .i64 0, .int .i64 0]), (4, .box 58 [.int .i64 A, .int .i64 0, .str [], .int .i64 0, .int .i64 0])]) (fun z => z = (decide (w2 = ([68, 73, 83, 75] : Bs)) && decide ((l.length : Int) = 6))) ?_ ?_
            · rcases q1 : decide (w2 = ([68, 73, 83, 75] : Bs)) with _ | _
              · refine vreg tt_ok hF rfl ?_
                simp only [List.length_map, g2, q1, go_sem, Int.reduceEq, Int.reduceLT, Nat.reduceEqDiff, Nat.reduceAdd, Nat.reduceMul, Nat.reduceLT, Nat.reduceLeDiff, Int.reduceToNat]
                refine ⟨by omega, ?_⟩
                exact ⟨false, rfl, by simp only [go_sem, Int.reduceEq, Int.reduceLT, Nat.reduceEqDiff, Nat.reduceAdd, Nat.reduceMul, Nat.reduceLT, Nat.reduceLeDiff, Int.reduceToNat]; try trivial⟩
              · refine vreg tt_ok hF rfl ?_
                simp only [List.length_map, g2, q1, go_sem, Int.reduceEq, Int.reduceLT, Nat.reduceEqDiff, Nat.reduceAdd, Nat.reduceMul, Nat.reduceLT, Nat.reduceLeDiff, Int.reduceToNat]
                refine ⟨by omega, ?_⟩
                exact ⟨_, rfl, by simp only [go_sem, Int.reduceEq, Int.reduceLT, Nat.reduceEqDiff, Nat.reduceAdd, Nat.reduceMul, Nat.reduceLT, Nat.reduceLeDiff, Int.reduceToNat]; try trivial⟩
            rintro z5 hz5
            refine vif rfl ⟨fun ht => ?_, fun hx5 => ?_⟩
            · rw [ht] at hz5
              obtain ⟨c, hq⟩ := Bool.and_eq_true_iff.1 hz5.symm
              have c := of_decide_eq_true c
              have hq : l.length = 6 := by have := of_decide_eq_true hq; omega
              subst c
              have hk : kindT ([68, 73, 83, 75] : Bs) = 5 := rfl
              rw [hk] at hul hrl
              rw [if_pos ⟨h3, by decide, by rw [hq]; rfl⟩] at hrl
              have g3 := get_row (l := l) (k := 3) (by omega)
              obtain ⟨w3, hw3⟩ : ∃ w, l.getD 3 [] = w := ⟨_, rfl⟩
              rw [hw3] at g3 hul
              have g4 := get_row (l := l) (k := 4) (by omega)
              have hn4 := rnumber_spec (l.getD 4 []) (get_len hl 4)
              obtain ⟨w4, hw4⟩ : ∃ w, l.getD 4 [] = w := ⟨_, rfl⟩
              rw [hw4] at g4 hn4 hul
              have g5 := get_row (l := l) (k := 5) (by omega)
              have hn5 := rnumber_spec (l.getD 5 []) (get_len hl 5)
              obtain ⟨w5, hw5⟩ : ∃ w, l.getD 5 [] = w := ⟨_, rfl⟩
              rw [hw5] at g5 hn5 hul
              have hul : unitL l = ⟨A, 5, w3, numT w4, numT w5⟩ := hul
              rw [hrl] at hU
              injection hU with q1 q2
              rw [q2] at hun
              rw [hul] at hun q1
              subst q1
              unfold uniC at hun
              refine vwp_seq_k fun Nn hNn => vreg tt_ok hF rfl ?_; simp only [go_sem, Int.reduceEq, Int.reduceLT, Nat.reduceEqDiff, Nat.reduceAdd, Nat.reduceMul, Nat.reduceLT, Nat.reduceLeDiff, Int.reduceToNat]
              refine hNn _ (VWp.keepR [0,2,4] [2,4] tt_ok hF rfl fun No hNo => ?_); simp only [List.length_map, g3, go_sem, Int.reduceEq, Int.reduceLT, Nat.reduceEqDiff, Nat.reduceAdd, Nat.reduceMul, Nat.reduceLT, Nat.reduceLeDiff, Int.reduceToNat]
              refine ⟨by omega, ?_⟩
              refine hNo _ (VWp.keepR [0,2,4] [2,4] tt_ok hF rfl fun Np hNp => ?_); simp only [List.length_map, g4, go_sem, Int.reduceEq, Int.reduceLT, Nat.reduceEqDiff, Nat.reduceAdd, Nat.reduceMul, Nat.reduceLT, Nat.reduceLeDiff, Int.reduceToNat]
              refine ⟨by omega, ?_⟩
              refine .inl ⟨_, hn4, ?_⟩; try simp only [go_sem, Int.reduceEq, Int.reduceLT, Nat.reduceEqDiff, Nat.reduceAdd, Nat.reduceMul, Nat.reduceLT, Nat.reduceLeDiff, Int.reduceToNat]
              refine hNp _ (VWp.keep [0,2,4] [2,4] ?_); simp only [go_sem, Int.reduceEq, Int.reduceLT, Nat.reduceEqDiff, Nat.reduceAdd, Nat.reduceMul, Nat.reduceLT, Nat.reduceLeDiff, Int.reduceToNat]
              refine vreg tt_ok hF rfl ?_
              simp only [List.length_map, g5, go_sem, Int.reduceEq, Int.reduceLT, Nat.reduceEqDiff, Nat.reduceAdd, Nat.reduceMul, Nat.reduceLT, Nat.reduceLeDiff, Int.reduceToNat]
              refine ⟨by omega, ?_⟩
              refine .inl ⟨_, hn5, ?_⟩; try simp only [go_sem, Int.reduceEq, Int.reduceLT, Nat.reduceEqDiff, Nat.reduceAdd, Nat.reduceMul, Nat.reduceLT, Nat.reduceLeDiff, Int.reduceToNat]
              refine hNf _ (VWp.keep [2,4] [2,4] ?_); simp only [go_sem, Int.reduceEq, Int.reduceLT, Nat.reduceEqDiff, Nat.reduceAdd, Nat.reduceMul, Nat.reduceLT, Nat.reduceLeDiff, Int.reduceToNat]
              refine vwp_seq_k fun Nh hNh => vregd tt_ok mixed hF rfl (by kernel_rfl) (by kernel_rfl) ?_; simp only [go_sem, Int.reduceEq, Int.reduceLT, Nat.reduceEqDiff, Nat.reduceAdd, Nat.reduceMul, Nat.reduceLT, Nat.reduceLeDiff, Int.reduceToNat]
              refine .inl ⟨_, hun, ?_⟩; try simp only [go_sem, Int.reduceEq, Int.reduceLT, Nat.reduceEqDiff, Nat.reduceAdd, Nat.reduceMul, Nat.reduceLT, Nat.reduceLeDiff, Int.reduceToNat]
              refine hNh _ (VWp.keep [2,3] [2] ?_); simp only [go_sem, Int.reduceEq, Int.reduceLT, Nat.reduceEqDiff, Nat.reduceAdd, Nat.reduceMul, Nat.reduceLT, Nat.reduceLeDiff, Int.reduceToNat]
              (refine vwp_ret ?_; simp only [go_sem, Int.reduceEq, Int.reduceLT, Nat.reduceEqDiff, Nat.reduceAdd, Nat.reduceMul, Nat.reduceLT, Nat.reduceLeDiff, Int.reduceToNat]; first | exact LeV.refl _ | exact LeV.of_eq (by simp))
            · rw [hx5] at hz5
              have hbad : ¬ (3 ≤ l.length ∧ kindT w2 ≠ 0 ∧ l.length = wantT (kindT w2)) := by
                rintro ⟨_, k0, kl⟩
                rcases kind_cases w2 with ⟨c, k⟩ | ⟨c, k⟩ | ⟨c, k⟩ | ⟨c, k⟩ | ⟨c, k⟩ | ⟨c1, c2, c3, c4, c5, k⟩
                · rw [k] at kl
                  have kl : l.length = 3 := kl
                  rw [decide_eq_true c, decide_eq_true (by omega : (l.length : Int) = 3)] at hz1; cases hz1
                · rw [k] at kl
                  have kl : l.length = 3 := kl
                  rw [decide_eq_true c, decide_eq_true (by omega : (l.length : Int) = 3)] at hz2; cases hz2
                · rw [k] at kl
                  have kl : l.length = 3 := kl
                  rw [decide_eq_true c, decide_eq_true (by omega : (l.length : Int) = 3)] at hz3; cases hz3
                · rw [k] at kl
                  have kl : l.length = 4 := kl
                  rw [decide_eq_true c, decide_eq_true (by omega : (l.length : Int) = 4)] at hz4; cases hz4
                · rw [k] at kl
                  have kl : l.length = 6 := kl
                  rw [decide_eq_true c, decide_eq_true (by omega : (l.length : Int) = 6)] at hz5; cases hz5
                · exact k0 k
              rw [if_neg hbad] at hrl
              rw [hrl] at hU
              injection hU with q1 q2
              subst q1; subst q2
              unfold zeroU
              refine vwp_seq_k fun Nq hNq => vreg tt_ok hF rfl ?_; simp only [go_sem, Int.reduceEq, Int.reduceLT, Nat.reduceEqDiff, Nat.reduceAdd, Nat.reduceMul, Nat.reduceLT, Nat.reduceLeDiff, Int.reduceToNat]
              refine hNq _ (VWp.keep [2,3] [2] ?_); simp only [go_sem, Int.reduceEq, Int.reduceLT, Nat.reduceEqDiff, Nat.reduceAdd, Nat.reduceMul, Nat.reduceLT, Nat.reduceLeDiff, Int.reduceToNat]
              (refine vwp_ret ?_; simp only [go_sem, Int.reduceEq, Int.reduceLT, Nat.reduceEqDiff, Nat.reduceAdd, Nat.reduceMul, Nat.reduceLT, Nat.reduceLeDiff, Int.reduceToNat]; first | exact LeV.refl _ | exact LeV.of_eq (by simp))
  · have e1 : decide ((l.length : Int) < 3) = true := decide_eq_true (by omega)
    have hrl : runitT l = (zeroU, false) := by unfold runitT; rw [if_neg (fun q => h3 q.1)]
    rw [hrl] at hU
    injection hU with q1 q2
    subst q1; subst q2
    unfold zeroU
    refine spec_of tt_ok Tryz.func78 rfl (by decide) Tryz.ntmps78 (congrArg Array.toList Tryz.results78) (by simp) (by decide) rfl rfl (fun F hF => ?_)
    refine vwp_seq_k fun Na hNa => vreg tt_ok hF rfl ?_; simp only [go_sem, Int.reduceEq, Int.reduceLT, Nat.reduceEqDiff, Nat.reduceAdd, Nat.reduceMul, Nat.reduceLT, Nat.reduceLeDiff, Int.reduceToNat]
    refine hNa _ (VWp.keep [0,2] [2] ?_); simp only [go_sem, Int.reduceEq, Int.reduceLT, Nat.reduceEqDiff, Nat.reduceAdd, Nat.reduceMul, Nat.reduceLT, Nat.reduceLeDiff, Int.reduceToNat]
    refine vwp_seq_k fun Nb hNb => ?_
    refine vwp_seq_k fun Nc hNc => vreg tt_ok hF rfl ?_; simp only [List.length_map, e1, go_sem, Int.reduceEq, Int.reduceLT, Nat.reduceEqDiff, Nat.reduceAdd, Nat.reduceMul, Nat.reduceLT, Nat.reduceLeDiff, Int.reduceToNat]
    refine hNc _ (VWp.keep [0,2,7] [2] ?_); simp only [go_sem, Int.reduceEq, Int.reduceLT, Nat.reduceEqDiff, Nat.reduceAdd, Nat.reduceMul, Nat.reduceLT, Nat.reduceLeDiff, Int.reduceToNat]
    refine vif rfl ⟨fun ht => ?_, (fun hf => by first | cases hf | exact absurd hf (by decide))⟩
    refine vwp_seq_k fun Nd hNd => vreg tt_ok hF rfl ?_; simp only [go_sem, Int.reduceEq, Int.reduceLT, Nat.reduceEqDiff, Nat.reduceAdd, Nat.reduceMul, Nat.reduceLT, Nat.reduceLeDiff, Int.reduceToNat]
    refine hNd _ (VWp.keep [2,3] [2] ?_); simp only [go_sem, Int.reduceEq, Int.reduceLT, Nat.reduceEqDiff, Nat.reduceAdd, Nat.reduceMul, Nat.reduceLT, Nat.reduceLeDiff, Int.reduceToNat]
    (refine vwp_ret ?_; simp only [go_sem, Int.reduceEq, Int.reduceLT, Nat.reduceEqDiff, Nat.reduceAdd, Nat.reduceMul, Nat.reduceLT, Nat.reduceLeDiff, Int.reduceToNat]; first | exact LeV.refl _ | exact LeV.of_eq (by simp))
end Go.Proofs.YtedbbinlcdgkoaaGreatDoor

/- Layer 19: the reference's add. -/
namespace Go.Proofs.YtedbbinlcdgkoaaGreatDoor
open Go.RowKit Go.Lib
-- FUSE
-- LESS
set_option linter.unusedVariables false
set_option linter.unusedSimpArgs false
theorem not_of {b : Bool} (h : true = !b) : b = false := by cases b; rfl; cases h
theorem of_not {b : Bool} (h : false = !b) : b = true := by cases b; cases h; rfl
def addT (c : CfgT) (l : List Bs) : CfgT × Bool := match lineT c l with
  | some c' => (c', true)
  | none => (c, false)
theorem add_store {c : CfgT} {l : List Bs} (h : l.headD [] = kStore) : addT c l = storeT c l := by
  unfold addT lineT storeT
  rw [if_pos h]
  by_cases q : (decide ((l.length : Int) = 2) && decide (c.store = 0) && sizT (numT (l.getD 1 []))) = true
  · rw [if_pos q]
    rw [Bool.and_eq_true, Bool.and_eq_true] at q
    have := of_decide_eq_true q.1.1
    rw [decide_eq_true (by omega : 2 ≤ l.length)]; rfl
  · rw [if_neg q, Bool.and_false]; rfl
theorem add_part {c : CfgT} {l : List Bs} (h : l.headD [] = kPart) : addT c l = lpartT c l := by
  unfold addT lineT lpartT
  rw [if_neg (by rw [h]; decide), if_pos h]
  by_cases q : (decide ((l.length : Int) = 3) && !decide ((4 : Int) ≤ c.ps.length) && partT (lpT l)) = true
  · rw [if_pos q]
    rw [Bool.and_eq_true, Bool.and_eq_true] at q
    have := of_decide_eq_true q.1.1
    rw [decide_eq_true (by omega : 3 ≤ l.length)]; rfl
  · rw [if_neg q, Bool.and_false]; rfl
def dupT (us : List UniT) (u : UniT) : Bool := us.any fun x => decide (x.addr = u.addr) || sameT u x
theorem dup_at {us : List UniT} (hs : sorT us) (u : UniT) : dupT us u = ((us[posT us u.addr]?.any fun x => decide (x.addr = u.addr)) || us.any (sameT u)) := by
  have h1 : (us.any fun x => decide (x.addr = u.addr)) = (us[posT us u.addr]?.any fun x => decide (x.addr = u.addr)) := by
    rw [Bool.eq_iff_iff, List.any_eq_true]
    constructor
    · rintro ⟨x, hx, e⟩
      have e := of_decide_eq_true e
      obtain ⟨i, hi, rfl⟩ := List.getElem_of_mem hx
      have hip : i = posT us u.addr := by
        rcases Nat.lt_trichotomy i (posT us u.addr) with q | q | q
        · have := pos_lt hi q; omega
        · exact q
        · have hp : posT us u.addr < us.length := by omega
          have := pos_ge hs (a := u.addr) hp (Nat.le_refl _)
          have := List.pairwise_iff_getElem.1 hs _ _ hp hi q
          omega
      rw [← hip, List.getElem?_eq_getElem hi]
      exact decide_eq_true e
    · intro h
      cases hg : us[posT us u.addr]? with
      | none => rw [hg] at h; cases h
      | some x => rw [hg] at h; exact ⟨x, List.mem_of_getElem? hg, h⟩
  rw [← h1]
  unfold dupT
  generalize us = l
  clear h1 hs
  induction l with
  | nil => rfl
  | cons a l ih =>
    rw [List.any_cons, List.any_cons, List.any_cons, ih]
    cases decide (a.addr = u.addr) <;> cases sameT u a <;> cases (l.any fun x => decide (x.addr = u.addr)) <;> cases l.any (sameT u) <;> rfl
theorem add_unit {c : CfgT} {l : List Bs} (hs : sorT c.us) (h : l.headD [] = kUnit) : addT c l = if (runitT l).2 = true ∧ c.us.length < 16 ∧ dupT c.us (runitT l).1 = false then
    ({ c with us := c.us.take (posT c.us (runitT l).1.addr) ++ (runitT l).1 :: c.us.drop (posT c.us (runitT l).1.addr) }, true) else (c, false) := by
  unfold addT lineT
  rw [if_neg (by rw [h]; decide), if_neg (by rw [h]; decide), if_pos h]
  unfold lunitT runitT
  by_cases hf : 3 ≤ l.length ∧ kindT (l.getD 2 []) ≠ 0 ∧ l.length = wantT (kindT (l.getD 2 []))
  · rw [if_pos hf, decide_eq_true hf.1, decide_eq_true hf.2.2, Bool.true_and, Bool.true_and]
    simp only
    rw [dup_at hs]
    by_cases h16 : c.us.length < 16
    · rw [decide_eq_true h16, Bool.true_and]
      cases unitT (unitL l) <;> cases (c.us[posT c.us (unitL l).addr]?.any fun x => decide (x.addr = (unitL l).addr)) <;> cases c.us.any (sameT (unitL l)) <;> simp [h16]
    · rw [decide_eq_false h16]
      simp [h16]
  · rw [if_neg hf]
    simp only
    have e : ∀ X : CfgT × Bool, (if (false = true ∧ c.us.length < 16 ∧ dupT c.us zeroU = false) then X else (c, false)) = (c, false) := fun X => if_neg (fun q => by cases q.1)
    rw [e]
    by_cases h3 : 3 ≤ l.length
    · rw [decide_eq_true h3, Bool.true_and]
      by_cases hk : kindT (l.getD 2 []) = 0
      · have : unitT (unitL l) = false := by
          unfold unitT unitL
          simp only [hk]
          simp
        rw [this]; simp
      · have : ¬ l.length = wantT (kindT (l.getD 2 [])) := fun q => hf ⟨h3, hk, q⟩
        rw [decide_eq_false this]; simp
    · rw [decide_eq_false h3]; rfl
theorem add_other {c : CfgT} {l : List Bs} (h1 : l.headD [] ≠ kStore) (h2 : l.headD [] ≠ kPart) (h3 : l.headD [] ≠ kUnit) : addT c l = (c, false) := by
  unfold addT lineT
  rw [if_neg h1, if_neg h2, if_neg h3]
def refO (c : CfgT) : List (Nat × Ob) := [(1000000, .box 39 [.sl 5 (c.us.map uniC), .int .i64 c.store, .own 1000002 (c.ps.map parC).length]), (1000002, .arr 2 72 (c.ps.map parC))]
set_option maxHeartbeats 16000000 in
set_option maxRecDepth 4000 in
theorem add_B (c : CfgT) (l : List Bs) (h1 : 1 ≤ l.length) (hl : ∀ s ∈ l, s.length ≤ 1000000) (hl2 : l.length ≤ 1000000) (hinv : InvC c) :
    SpecB Tryz.prog 57 [.ptr 1000000 0, .sl 1 (l.map strR)] (refO c) (.bool (addT c l).2) (refO (addT c l).1) := by
  have g0 := get_row (l := l) (k := 0) (by omega)
  have hh : l.headD [] = l.getD 0 [] := by cases l <;> rfl
  obtain ⟨w0, hw0⟩ : ∃ w, l.getD 0 [] = w := ⟨_, rfl⟩
  rw [hw0] at g0 hh
  have hnu1 := rnumber_spec (l.getD 1 []) (get_len hl 1)
  obtain ⟨⟨cc, bb⟩, hA⟩ : ∃ r, addT c l = r := ⟨_, rfl⟩
  rw [hA]
  unfold refO
  refine specB_of tt_ok Tryz.func57 rfl (by decide) Tryz.ntmps57 (congrArg Array.toList Tryz.results57) (by simp) (by decide) rfl (by simp only [go_sem, Int.reduceEq, Int.reduceLT, Nat.reduceEqDiff, Nat.reduceAdd, Nat.reduceMul, Nat.reduceLT, Nat.reduceLeDiff, Int.reduceToNat]) (fun F hF => ?_)
  refine vwp_seq_k fun Na hNa => vreg tt_ok hF rfl ?_; simp only [go_sem, Int.reduceEq, Int.reduceLT, Nat.reduceEqDiff, Nat.reduceAdd, Nat.reduceMul, Nat.reduceLT, Nat.reduceLeDiff, Int.reduceToNat]
  refine hNa _ (VWp.keep [0,1] [1000000,1000002] ?_); simp only [go_sem, Int.reduceEq, Int.reduceLT, Nat.reduceEqDiff, Nat.reduceAdd, Nat.reduceMul, Nat.reduceLT, Nat.reduceLeDiff, Int.reduceToNat]
  refine vwp_seq_k fun Nb hNb => ?_
  refine vwp_seq_k fun Nc hNc => vreg tt_ok hF rfl ?_; simp only [g0, List.length_map, go_sem, Int.reduceEq, Int.reduceLT, Nat.reduceEqDiff, Nat.reduceAdd, Nat.reduceMul, Nat.reduceLT, Nat.reduceLeDiff, Int.reduceToNat]
  refine ⟨by omega, ?_⟩
  refine hNc _ (VWp.keep [0,1,12] [1000000,1000002] ?_); simp only [go_sem, Int.reduceEq, Int.reduceLT, Nat.reduceEqDiff, Nat.reduceAdd, Nat.reduceMul, Nat.reduceLT, Nat.reduceLeDiff, Int.reduceToNat]
  refine vwp_block ?_
  by_cases c1 : w0 = kStore
  · have s1 : decide (w0 = ([83, 84, 79, 82, 69] : Bs)) = true := decide_eq_true c1
    rw [add_store (hh.trans c1)] at hA
    have hsz := rsize_spec (numT (l.getD 1 []))
    have hst : storeT c l = if decide ((l.length : Int) = 2) && decide (c.store = 0) && sizT (numT (l.getD 1 [])) then ({ c with store := numT (l.getD 1 []) }, true) else (c, false) := rfl
    refine vwp_seq_k fun Nd hNd => vreg tt_ok hF rfl ?_; simp only [s1, go_sem, Int.reduceEq, Int.reduceLT, Nat.reduceEqDiff, Nat.reduceAdd, Nat.reduceMul, Nat.reduceLT, Nat.reduceLeDiff, Int.reduceToNat]
    refine hNd _ (VWp.keep [0,1,12,13] [1000000,1000002] ?_); simp only [go_sem, Int.reduceEq, Int.reduceLT, Nat.reduceEqDiff, Nat.reduceAdd, Nat.reduceMul, Nat.reduceLT, Nat.reduceLeDiff, Int.reduceToNat]
    refine vif rfl ⟨fun ht => ?_, (fun hf => by first | cases hf | exact absurd hf (by decide))⟩
    refine vwp_seq_k fun Ne hNe => ?_
    refine vmeet (fun z : Bool => [(0, .ptr 1000000 0), (1, .sl 1 (l.map strR)), (32, .bool z)]) (fun _ => [(1000000, .box 39 [.sl 5 (c.us.map uniC), .int .i64 c.store, .own 1000002 (c.ps.map parC).length]), (1000002, .arr 2 72 (c.ps.map parC))]) (fun z => z = !(decide ((l.length : Int) = 2) && decide (c.store = 0) && sizT (numT (l.getD 1 [])))) ?_ ?_
    · rcases e1 : decide ((l.length : Int) = 2) with _ | _
      · refine vreg tt_ok hF rfl ?_
        simp only [List.length_map, e1, go_sem, Int.reduceEq, Int.reduceLT, Nat.reduceEqDiff, Nat.reduceAdd, Nat.reduceMul, Nat.reduceLT, Nat.reduceLeDiff, Int.reduceToNat]
        exact ⟨true, rfl, by simp only [go_sem, Int.reduceEq, Int.reduceLT, Nat.reduceEqDiff, Nat.reduceAdd, Nat.reduceMul, Nat.reduceLT, Nat.reduceLeDiff, Int.reduceToNat]; try trivial⟩
      · have g1 := get_row (l := l) (k := 1) (by have := of_decide_eq_true e1; omega)
        have hl2' : l.length = 2 := by have := of_decide_eq_true e1; omega
        rcases e2 : decide (c.store = 0) with _ | _
        · refine vreg tt_ok hF rfl ?_
          simp only [List.length_map, e1, e2, go_sem, Int.reduceEq, Int.reduceLT, Nat.reduceEqDiff, Nat.reduceAdd, Nat.reduceMul, Nat.reduceLT, Nat.reduceLeDiff, Int.reduceToNat]
          exact ⟨true, rfl, by simp only [go_sem, Int.reduceEq, Int.reduceLT, Nat.reduceEqDiff, Nat.reduceAdd, Nat.reduceMul, Nat.reduceLT, Nat.reduceLeDiff, Int.reduceToNat]; try trivial⟩
        · refine vreg tt_ok hF rfl ?_
          simp only [List.length_map, e1, e2, g1, go_sem, Int.reduceEq, Int.reduceLT, Nat.reduceEqDiff, Nat.reduceAdd, Nat.reduceMul, Nat.reduceLT, Nat.reduceLeDiff, Int.reduceToNat]
          refine ⟨by omega, ?_⟩
          refine .inl ⟨_, hnu1, ?_⟩; try simp only [go_sem, Int.reduceEq, Int.reduceLT, Nat.reduceEqDiff, Nat.reduceAdd, Nat.reduceMul, Nat.reduceLT, Nat.reduceLeDiff, Int.reduceToNat]
          refine .inl ⟨_, hsz, ?_⟩; try simp only [go_sem, Int.reduceEq, Int.reduceLT, Nat.reduceEqDiff, Nat.reduceAdd, Nat.reduceMul, Nat.reduceLT, Nat.reduceLeDiff, Int.reduceToNat]
          exact ⟨_, rfl, by simp only [Bool.true_and, go_sem, Int.reduceEq, Int.reduceLT, Nat.reduceEqDiff, Nat.reduceAdd, Nat.reduceMul, Nat.reduceLT, Nat.reduceLeDiff, Int.reduceToNat]; try trivial⟩
    rintro z hz
    refine vif rfl ⟨fun ht => ?_, fun hf => ?_⟩
    · rw [ht] at hz
      rw [hst, if_neg (by rw [show (decide ((l.length : Int) = 2) && decide (c.store = 0) && sizT (numT (l.getD 1 []))) = false from not_of hz]; decide)] at hA
      injection hA with q1 q2
      subst q1; subst q2
      refine vwp_seq_k fun Ng hNg => vreg tt_ok hF rfl ?_; simp only [go_sem, Int.reduceEq, Int.reduceLT, Nat.reduceEqDiff, Nat.reduceAdd, Nat.reduceMul, Nat.reduceLT, Nat.reduceLeDiff, Int.reduceToNat]
      refine hNg _ (VWp.keep [4] [1000000,1000002] ?_); simp only [go_sem, Int.reduceEq, Int.reduceLT, Nat.reduceEqDiff, Nat.reduceAdd, Nat.reduceMul, Nat.reduceLT, Nat.reduceLeDiff, Int.reduceToNat]
      refine vwp_ret ?_
      simp only [go_sem, Int.reduceEq, Int.reduceLT, Nat.reduceEqDiff, Nat.reduceAdd, Nat.reduceMul, Nat.reduceLT, Nat.reduceLeDiff, Int.reduceToNat]
      first | done | exact LeV.refl _ | exact ⟨LeV.refl _, by first | rfl | simp⟩
    · rw [hf] at hz
      have hz : (decide ((l.length : Int) = 2) && decide (c.store = 0) && sizT (numT (l.getD 1 []))) = true := of_not hz
      have g1 := get_row (l := l) (k := 1) (by
        have := of_decide_eq_true (Bool.and_eq_true_iff.1 (Bool.and_eq_true_iff.1 hz).1).1
        omega)
      have hl2' : l.length = 2 := by
        have := of_decide_eq_true (Bool.and_eq_true_iff.1 (Bool.and_eq_true_iff.1 hz).1).1
        omega
      rw [hst, if_pos hz] at hA
      injection hA with q1 q2
      subst q1; subst q2
      refine vwp_skip (hNe _ ?_)
      refine vwp_seq_k fun Nh hNh => vreg tt_ok hF rfl ?_; simp only [List.length_map, g1, go_sem, Int.reduceEq, Int.reduceLT, Nat.reduceEqDiff, Nat.reduceAdd, Nat.reduceMul, Nat.reduceLT, Nat.reduceLeDiff, Int.reduceToNat]
      refine ⟨by omega, ?_⟩
      refine .inl ⟨_, hnu1, ?_⟩; try simp only [go_sem, Int.reduceEq, Int.reduceLT, Nat.reduceEqDiff, Nat.reduceAdd, Nat.reduceMul, Nat.reduceLT, Nat.reduceLeDiff, Int.reduceToNat]
      refine hNh _ (VWp.keepR [] [1000000,1000002] tt_ok hF rfl fun Ni hNi => ?_); simp only [go_sem, Int.reduceEq, Int.reduceLT, Nat.reduceEqDiff, Nat.reduceAdd, Nat.reduceMul, Nat.reduceLT, Nat.reduceLeDiff, Int.reduceToNat]
      refine hNi _ (VWp.keep [4] [1000000,1000002] ?_); simp only [go_sem, Int.reduceEq, Int.reduceLT, Nat.reduceEqDiff, Nat.reduceAdd, Nat.reduceMul, Nat.reduceLT, Nat.reduceLeDiff, Int.reduceToNat]
      refine vwp_ret ?_
      simp only [go_sem, Int.reduceEq, Int.reduceLT, Nat.reduceEqDiff, Nat.reduceAdd, Nat.reduceMul, Nat.reduceLT, Nat.reduceLeDiff, Int.reduceToNat]
      first | done | exact LeV.refl _ | exact ⟨LeV.refl _, by first | rfl | simp⟩
  · have s1 : decide (w0 = ([83, 84, 79, 82, 69] : Bs)) = false := decide_eq_false c1
    refine vwp_seq_k fun Nd hNd => vreg tt_ok hF rfl ?_; simp only [s1, go_sem, Int.reduceEq, Int.reduceLT, Nat.reduceEqDiff, Nat.reduceAdd, Nat.reduceMul, Nat.reduceLT, Nat.reduceLeDiff, Int.reduceToNat]
    refine hNd _ (VWp.keep [0,1,12,13] [1000000,1000002] ?_); simp only [go_sem, Int.reduceEq, Int.reduceLT, Nat.reduceEqDiff, Nat.reduceAdd, Nat.reduceMul, Nat.reduceLT, Nat.reduceLeDiff, Int.reduceToNat]
    refine vif rfl ⟨(fun hf => by first | cases hf | exact absurd hf (by decide)), fun ht => ?_⟩
    by_cases c2 : w0 = kPart
    · have s2 : decide (w0 = ([80, 65, 82, 84] : Bs)) = true := decide_eq_true c2
      rw [add_part (hh.trans c2)] at hA
      have hpt := rPart_spec (lpT l)
      have hst : lpartT c l = if decide ((l.length : Int) = 3) && !decide ((4 : Int) ≤ c.ps.length) && partT (lpT l) then ({ c with ps := c.ps ++ [lpT l] }, true) else (c, false) := rfl
      have hlp : lpT l = ⟨numT (l.getD 1 []), l.getD 2 []⟩ := rfl
      rw [hlp] at hpt
      unfold parC at hpt
      have hp4 := hinv.p
      refine vwp_seq_k fun Nj hNj => vreg tt_ok hF rfl ?_; simp only [s2, go_sem, Int.reduceEq, Int.reduceLT, Nat.reduceEqDiff, Nat.reduceAdd, Nat.reduceMul, Nat.reduceLT, Nat.reduceLeDiff, Int.reduceToNat]
      refine hNj _ (VWp.keep [0,1,12,40] [1000000,1000002] ?_); simp only [go_sem, Int.reduceEq, Int.reduceLT, Nat.reduceEqDiff, Nat.reduceAdd, Nat.reduceMul, Nat.reduceLT, Nat.reduceLeDiff, Int.reduceToNat]
      refine vif rfl ⟨fun ht => ?_, (fun hf => by first | cases hf | exact absurd hf (by decide))⟩
      refine vwp_seq_k fun Nk hNk => ?_
      refine vmeet (fun z : Bool => [(0, .ptr 1000000 0), (1, .sl 1 (l.map strR)), (64, .bool z)]) (fun _ => [(1000000, .box 39 [.sl 5 (c.us.map uniC), .int .i64 c.store, .own 1000002 (c.ps.map parC).length]), (1000002, .arr 2 72 (c.ps.map parC))]) (fun z => z = !(decide ((l.length : Int) = 3) && !decide ((4 : Int) ≤ c.ps.length) && partT (lpT l))) ?_ ?_
      · rcases e1 : decide ((l.length : Int) = 3) with _ | _
        · refine vregd tt_ok mixed hF rfl (by kernel_rfl) (by kernel_rfl) ?_
          simp only [List.length_map, e1, go_sem, Int.reduceEq, Int.reduceLT, Nat.reduceEqDiff, Nat.reduceAdd, Nat.reduceMul, Nat.reduceLT, Nat.reduceLeDiff, Int.reduceToNat]
          exact ⟨true, rfl, by simp only [go_sem, Int.reduceEq, Int.reduceLT, Nat.reduceEqDiff, Nat.reduceAdd, Nat.reduceMul, Nat.reduceLT, Nat.reduceLeDiff, Int.reduceToNat]; try trivial⟩
        · have hl3 : l.length = 3 := by have := of_decide_eq_true e1; omega
          have g1 := get_row (l := l) (k := 1) (by omega)
          have g2 := get_row (l := l) (k := 2) (by omega)
          rcases e2 : decide ((4 : Int) ≤ c.ps.length) with _ | _
          · refine vregd tt_ok mixed hF rfl (by kernel_rfl) (by kernel_rfl) ?_
            simp only [List.length_map, e1, e2, g1, g2, go_sem, Int.reduceEq, Int.reduceLT, Nat.reduceEqDiff, Nat.reduceAdd, Nat.reduceMul, Nat.reduceLT, Nat.reduceLeDiff, Int.reduceToNat]
            refine ⟨by omega, ?_⟩
            refine .inl ⟨_, hnu1, ?_⟩; try simp only [go_sem, Int.reduceEq, Int.reduceLT, Nat.reduceEqDiff, Nat.reduceAdd, Nat.reduceMul, Nat.reduceLT, Nat.reduceLeDiff, Int.reduceToNat]
            try simp only [List.length_map, g2, go_sem, Int.reduceEq, Int.reduceLT, Nat.reduceEqDiff, Nat.reduceAdd, Nat.reduceMul, Nat.reduceLT, Nat.reduceLeDiff, Int.reduceToNat]
            refine ⟨by omega, ?_⟩
            refine .inl ⟨_, hpt, ?_⟩; try simp only [go_sem, Int.reduceEq, Int.reduceLT, Nat.reduceEqDiff, Nat.reduceAdd, Nat.reduceMul, Nat.reduceLT, Nat.reduceLeDiff, Int.reduceToNat]
            exact ⟨_, rfl, by simp only [hlp, Bool.not_false, Bool.true_and, go_sem, Int.reduceEq, Int.reduceLT, Nat.reduceEqDiff, Nat.reduceAdd, Nat.reduceMul, Nat.reduceLT, Nat.reduceLeDiff, Int.reduceToNat]; try trivial⟩
          · refine vregd tt_ok mixed hF rfl (by kernel_rfl) (by kernel_rfl) ?_
            simp only [List.length_map, e1, e2, go_sem, Int.reduceEq, Int.reduceLT, Nat.reduceEqDiff, Nat.reduceAdd, Nat.reduceMul, Nat.reduceLT, Nat.reduceLeDiff, Int.reduceToNat]
            exact ⟨true, rfl, by simp only [go_sem, Int.reduceEq, Int.reduceLT, Nat.reduceEqDiff, Nat.reduceAdd, Nat.reduceMul, Nat.reduceLT, Nat.reduceLeDiff, Int.reduceToNat]; try trivial⟩
      rintro z hz
      refine vif rfl ⟨fun ht => ?_, fun hf => ?_⟩
      · rw [ht] at hz
        rw [hst, if_neg (by rw [show (decide ((l.length : Int) = 3) && !decide ((4 : Int) ≤ c.ps.length) && partT (lpT l)) = false from not_of hz]; decide)] at hA
        injection hA with q1 q2
        subst q1; subst q2
        refine vwp_seq_k fun Nm hNm => vreg tt_ok hF rfl ?_; simp only [go_sem, Int.reduceEq, Int.reduceLT, Nat.reduceEqDiff, Nat.reduceAdd, Nat.reduceMul, Nat.reduceLT, Nat.reduceLeDiff, Int.reduceToNat]
        refine hNm _ (VWp.keep [4] [1000000,1000002] ?_); simp only [go_sem, Int.reduceEq, Int.reduceLT, Nat.reduceEqDiff, Nat.reduceAdd, Nat.reduceMul, Nat.reduceLT, Nat.reduceLeDiff, Int.reduceToNat]
        refine vwp_ret ?_
        simp only [go_sem, Int.reduceEq, Int.reduceLT, Nat.reduceEqDiff, Nat.reduceAdd, Nat.reduceMul, Nat.reduceLT, Nat.reduceLeDiff, Int.reduceToNat]
        first | done | exact LeV.refl _ | exact ⟨LeV.refl _, by first | rfl | simp⟩
      · rw [hf] at hz
        have hz : (decide ((l.length : Int) = 3) && !decide ((4 : Int) ≤ c.ps.length) && partT (lpT l)) = true := of_not hz
        have hl3 : l.length = 3 := by
          have := of_decide_eq_true (Bool.and_eq_true_iff.1 (Bool.and_eq_true_iff.1 hz).1).1
          omega
        have g1 := get_row (l := l) (k := 1) (by omega)
        have g2 := get_row (l := l) (k := 2) (by omega)
        rw [hst, if_pos hz, hlp] at hA
        injection hA with q1 q2
        subst q1; subst q2
        refine vwp_skip (hNk _ ?_)
        refine vwp_seq_k fun Nn hNn => vregd tt_ok mixed hF rfl (by kernel_rfl) (by kernel_rfl) ?_
        simp only [List.length_map, g1, g2, go_sem, Int.reduceEq, Int.reduceLT, Nat.reduceEqDiff, Nat.reduceAdd, Nat.reduceMul, Nat.reduceLT, Nat.reduceLeDiff, Int.reduceToNat]
        refine ⟨by omega, ?_⟩
        refine .inl ⟨_, hnu1, ?_⟩; try simp only [go_sem, Int.reduceEq, Int.reduceLT, Nat.reduceEqDiff, Nat.reduceAdd, Nat.reduceMul, Nat.reduceLT, Nat.reduceLeDiff, Int.reduceToNat]
        try simp only [List.length_map, g2, go_sem, Int.reduceEq, Int.reduceLT, Nat.reduceEqDiff, Nat.reduceAdd, Nat.reduceMul, Nat.reduceLT, Nat.reduceLeDiff, Int.reduceToNat]
        refine ⟨by omega, ?_⟩
        refine ⟨by omega, ?_⟩
        refine hNn _ (VWp.keepR [] [1000000,1000002] tt_ok hF rfl fun No hNo => ?_); simp only [go_sem, Int.reduceEq, Int.reduceLT, Nat.reduceEqDiff, Nat.reduceAdd, Nat.reduceMul, Nat.reduceLT, Nat.reduceLeDiff, Int.reduceToNat]
        refine hNo _ (VWp.keep [4] [1000000,1000002] ?_); simp only [go_sem, Int.reduceEq, Int.reduceLT, Nat.reduceEqDiff, Nat.reduceAdd, Nat.reduceMul, Nat.reduceLT, Nat.reduceLeDiff, Int.reduceToNat]
        refine vwp_ret ?_
        simp only [go_sem, Int.reduceEq, Int.reduceLT, Nat.reduceEqDiff, Nat.reduceAdd, Nat.reduceMul, Nat.reduceLT, Nat.reduceLeDiff, Int.reduceToNat]
        first | done | exact LeV.refl _ | exact ⟨LeV.refl _, by first | rfl | simp [parC]⟩
    · have s2 : decide (w0 = ([80, 65, 82, 84] : Bs)) = false := decide_eq_false c2
      refine vwp_seq_k fun Nj hNj => vreg tt_ok hF rfl ?_; simp only [s2, go_sem, Int.reduceEq, Int.reduceLT, Nat.reduceEqDiff, Nat.reduceAdd, Nat.reduceMul, Nat.reduceLT, Nat.reduceLeDiff, Int.reduceToNat]
      refine hNj _ (VWp.keep [0,1,12,40] [1000000,1000002] ?_); simp only [go_sem, Int.reduceEq, Int.reduceLT, Nat.reduceEqDiff, Nat.reduceAdd, Nat.reduceMul, Nat.reduceLT, Nat.reduceLeDiff, Int.reduceToNat]
      refine vif rfl ⟨(fun hf => by first | cases hf | exact absurd hf (by decide)), fun ht => ?_⟩
      by_cases c3 : w0 = kUnit
      · have s3 : decide (w0 = ([85, 78, 73, 84] : Bs)) = true := decide_eq_true c3
        rw [add_unit hinv.s (hh.trans c3)] at hA
        have hru := runit_spec l hl hl2
        obtain ⟨⟨u, ok⟩, hr⟩ : ∃ r, runitT l = r := ⟨_, rfl⟩
        rw [hr] at hru hA
        unfold runitV uniC at hru
        simp only at hA hru
        have hus := hinv.n
        have hpl := pos_le c.us u.addr
        obtain ⟨p, hp⟩ : ∃ p, posT c.us u.addr = p := ⟨_, rfl⟩
        rw [hp] at hpl hA
        refine vwp_seq_k fun Np hNp => vreg tt_ok hF rfl ?_; simp only [s3, go_sem, Int.reduceEq, Int.reduceLT, Nat.reduceEqDiff, Nat.reduceAdd, Nat.reduceMul, Nat.reduceLT, Nat.reduceLeDiff, Int.reduceToNat]
        refine hNp _ (VWp.keep [0,1,82] [1000000,1000002] ?_); simp only [go_sem, Int.reduceEq, Int.reduceLT, Nat.reduceEqDiff, Nat.reduceAdd, Nat.reduceMul, Nat.reduceLT, Nat.reduceLeDiff, Int.reduceToNat]
        refine vif rfl ⟨fun ht => ?_, (fun hf => by first | cases hf | exact absurd hf (by decide))⟩
        refine vwp_seq_k fun Nq hNq => vreg tt_ok hF rfl ?_; simp only [go_sem, Int.reduceEq, Int.reduceLT, Nat.reduceEqDiff, Nat.reduceAdd, Nat.reduceMul, Nat.reduceLT, Nat.reduceLeDiff, Int.reduceToNat]
        refine .inl ⟨_, hru, ?_⟩; try simp only [go_sem, Int.reduceEq, Int.reduceLT, Nat.reduceEqDiff, Nat.reduceAdd, Nat.reduceMul, Nat.reduceLT, Nat.reduceLeDiff, Int.reduceToNat]
        refine hNq _ (VWp.keep [0,5,6] [5,1000000,1000002] ?_); simp only [go_sem, Int.reduceEq, Int.reduceLT, Nat.reduceEqDiff, Nat.reduceAdd, Nat.reduceMul, Nat.reduceLT, Nat.reduceLeDiff, Int.reduceToNat]
        refine vwp_seq_k fun Nr hNr => ?_
        refine vmeet (fun z : Bool => [(0, .ptr 1000000 0), (5, .ptr 5 0), (98, .bool z)]) (fun _ => [(1000000, .box 39 [.sl 5 (c.us.map uniC), .int .i64 c.store, .own 1000002 (c.ps.map parC).length]), (1000002, .arr 2 72 (c.ps.map parC)), (5, .box 58 [.int .i64 u.addr, .int .i64 u.kind, .str u.ser, .int .i64 u.cyl, .int .i64 u.head])]) (fun z => z = !(ok && decide (c.us.length < 16))) ?_ ?_
        · cases ok
          · refine vreg tt_ok hF rfl ?_
            simp only [List.length_map, go_sem, Int.reduceEq, Int.reduceLT, Nat.reduceEqDiff, Nat.reduceAdd, Nat.reduceMul, Nat.reduceLT, Nat.reduceLeDiff, Int.reduceToNat]
            exact ⟨true, rfl, by simp only [go_sem, Int.reduceEq, Int.reduceLT, Nat.reduceEqDiff, Nat.reduceAdd, Nat.reduceMul, Nat.reduceLT, Nat.reduceLeDiff, Int.reduceToNat]; try trivial⟩
          · have e16 : decide ((16 : Int) ≤ (c.us.length : Int)) = !decide (c.us.length < 16) := by
              by_cases q : c.us.length < 16
              · rw [decide_eq_true q, decide_eq_false (by omega)]; rfl
              · rw [decide_eq_false q, decide_eq_true (by omega)]; rfl
            refine vreg tt_ok hF rfl ?_
            simp only [List.length_map, e16, go_sem, Int.reduceEq, Int.reduceLT, Nat.reduceEqDiff, Nat.reduceAdd, Nat.reduceMul, Nat.reduceLT, Nat.reduceLeDiff, Int.reduceToNat]
            exact ⟨_, rfl, by simp only [Bool.true_and, go_sem, Int.reduceEq, Int.reduceLT, Nat.reduceEqDiff, Nat.reduceAdd, Nat.reduceMul, Nat.reduceLT, Nat.reduceLeDiff, Int.reduceToNat]; try trivial⟩
        rintro z hz
        refine vif rfl ⟨fun ht => ?_, fun hf => ?_⟩
        · rw [ht] at hz
          rw [if_neg (fun q => by rw [q.1, decide_eq_true q.2.1] at hz; cases hz)] at hA
          injection hA with q1 q2
          subst q1; subst q2
          refine vwp_seq_k fun Nt hNt => vreg tt_ok hF rfl ?_; simp only [go_sem, Int.reduceEq, Int.reduceLT, Nat.reduceEqDiff, Nat.reduceAdd, Nat.reduceMul, Nat.reduceLT, Nat.reduceLeDiff, Int.reduceToNat]
          refine hNt _ (VWp.keep [4] [1000000,1000002] ?_); simp only [go_sem, Int.reduceEq, Int.reduceLT, Nat.reduceEqDiff, Nat.reduceAdd, Nat.reduceMul, Nat.reduceLT, Nat.reduceLeDiff, Int.reduceToNat]
          refine vwp_ret ?_
          simp only [go_sem, Int.reduceEq, Int.reduceLT, Nat.reduceEqDiff, Nat.reduceAdd, Nat.reduceMul, Nat.reduceLT, Nat.reduceLeDiff, Int.reduceToNat]
          first | done | exact LeV.refl _ | exact ⟨LeV.refl _, by first | rfl | simp⟩
        · rw [hf] at hz
          have hz : (ok && decide (c.us.length < 16)) = true := of_not hz
          obtain ⟨z1, z2⟩ := Bool.and_eq_true_iff.1 hz
          have h16 : c.us.length < 16 := of_decide_eq_true z2
          subst z1
          refine vwp_skip (hNr _ ?_)
          refine vwp_seq_k fun Nu hNu => vreg tt_ok hF rfl ?_; simp only [go_sem, Int.reduceEq, Int.reduceLT, Nat.reduceEqDiff, Nat.reduceAdd, Nat.reduceMul, Nat.reduceLT, Nat.reduceLeDiff, Int.reduceToNat]
          refine hNu _ (VWp.keep [0,5,7] [5,1000000,1000002] ?_); simp only [go_sem, Int.reduceEq, Int.reduceLT, Nat.reduceEqDiff, Nat.reduceAdd, Nat.reduceMul, Nat.reduceLT, Nat.reduceLeDiff, Int.reduceToNat]
          refine vwp_seq_k fun Nv hNv => ?_
          refine vwp_seq_k fun Nw hNw => vreg tt_ok hF rfl ?_; simp only [go_sem, Int.reduceEq, Int.reduceLT, Nat.reduceEqDiff, Nat.reduceAdd, Nat.reduceMul, Nat.reduceLT, Nat.reduceLeDiff, Int.reduceToNat]
          refine hNw _ (VWp.keep [0,5,7,8] [5,1000000,1000002] ?_); simp only [go_sem, Int.reduceEq, Int.reduceLT, Nat.reduceEqDiff, Nat.reduceAdd, Nat.reduceMul, Nat.reduceLT, Nat.reduceLeDiff, Int.reduceToNat]
          refine vwp_block ?_
          refine vloop (fun k : Nat => [(0, .ptr 1000000 0), (5, .ptr 5 0), (7, .int .i64 ((min k p : Nat) : Int)), (8, .int .i64 (k : Int))])
            (fun k => [(1000000, .box 39 [.sl 5 (c.us.map uniC), .int .i64 c.store, .own 1000002 (c.ps.map parC).length]), (1000002, .arr 2 72 (c.ps.map parC)), (5, .box 58 [.int .i64 u.addr, .int .i64 u.kind, .str u.ser, .int .i64 u.cyl, .int .i64 u.head])]) (fun k => k ≤ c.us.length ∧ dupT (c.us.take k) u = false) (fun k => c.us.length - k) 0 ⟨by omega, rfl⟩ (by simp only [Nat.zero_min, go_sem, Int.reduceEq, Int.reduceLT, Nat.reduceEqDiff, Nat.reduceAdd, Nat.reduceMul, Nat.reduceLT, Nat.reduceLeDiff, Int.reduceToNat]; try simp) ?_
          rintro k ⟨hk, hnd0⟩
          refine vwp_seq_k fun Nx hNx => ?_
          refine vwp_seq_k fun Ny hNy => vreg tt_ok hF rfl ?_; simp only [go_sem, Int.reduceEq, Int.reduceLT, Nat.reduceEqDiff, Nat.reduceAdd, Nat.reduceMul, Nat.reduceLT, Nat.reduceLeDiff, Int.reduceToNat]
          try simp only [List.length_map]
          refine hNy _ (VWp.keep [0,5,7,8,105] [5,1000000,1000002] ?_); simp only [go_sem, Int.reduceEq, Int.reduceLT, Nat.reduceEqDiff, Nat.reduceAdd, Nat.reduceMul, Nat.reduceLT, Nat.reduceLeDiff, Int.reduceToNat]
          refine vif rfl ⟨fun ht => ?_, fun hf => ?_⟩
          · have hq : k < c.us.length := by have := of_decide_eq_true ht; omega
            have hget := uni_row hq
            have hd1 : dupT (c.us.take (k + 1)) u = (decide ((c.us[k]).addr = u.addr) || sameT u c.us[k]) := by
              unfold dupT at hnd0 ⊢
              rw [List.take_succ_eq_append_getElem hq, List.any_append, hnd0]; simp
            have hd2 : (decide ((c.us[k]).addr = u.addr) || sameT u c.us[k]) = true → dupT c.us u = true := fun q => by
              unfold dupT; exact List.any_eq_true.2 ⟨_, List.getElem_mem hq, q⟩
            have hat : (k < p ∧ c.us[k].addr < u.addr) ∨ (p ≤ k ∧ ¬ c.us[k].addr < u.addr) := by
              by_cases q : k < p
              · exact .inl ⟨q, pos_lt hq (by omega)⟩
              · have := pos_ge hinv.s hq (a := u.addr) (by omega)
                exact .inr ⟨by omega, by omega⟩
            obtain ⟨x, hx⟩ : ∃ x, c.us[k] = x := ⟨_, rfl⟩
            rw [hx] at hget hd1 hd2 hat
            refine vwp_skip (hNx _ ?_)
            refine vmeet (fun _ : Unit => [(0, .ptr 1000000 0), (5, .ptr 5 0), (7, .int .i64 ((min (k + 1) p : Nat) : Int)), (8, .int .i64 (k : Int))])
              (fun _ => [(1000000, .box 39 [.sl 5 (c.us.map uniC), .int .i64 c.store, .own 1000002 (c.ps.map parC).length]), (1000002, .arr 2 72 (c.ps.map parC)), (5, .box 58 [.int .i64 u.addr, .int .i64 u.kind, .str u.ser, .int .i64 u.cyl, .int .i64 u.head])]) (fun _ => (decide (x.addr = u.addr) || sameT u x) = false) ?_ ?_
            · refine vwp_block ?_
              refine vwp_seq_k fun Naa hNaa => ?_
              refine vmeet (fun z : Bool => [(0, .ptr 1000000 0), (5, .ptr 5 0), (7, .int .i64 ((min k p : Nat) : Int)), (8, .int .i64 (k : Int)), (136, .bool z)])
                (fun _ => [(1000000, .box 39 [.sl 5 (c.us.map uniC), .int .i64 c.store, .own 1000002 (c.ps.map parC).length]), (1000002, .arr 2 72 (c.ps.map parC)), (5, .box 58 [.int .i64 u.addr, .int .i64 u.kind, .str u.ser, .int .i64 u.cyl, .int .i64 u.head])]) (fun z => z = (decide (x.addr = u.addr) || sameT u x)) ?_ ?_
              · unfold sameT
                rcases f1 : decide (x.addr = u.addr) with _ | _
                · rcases f2 : decide (u.ser = []) with _ | _
                  · refine vregd tt_ok mixed hF rfl (by kernel_rfl) (by kernel_rfl) ?_
                    simp only [hget, List.length_map, Int.toNat_natCast, f1, f2, go_sem, Int.reduceEq, Int.reduceLT, Nat.reduceEqDiff, Nat.reduceAdd, Nat.reduceMul, Nat.reduceLT, Nat.reduceLeDiff, Int.reduceToNat]
                    refine ⟨⟨by omega, by omega⟩, ?_⟩
                    try simp only [hget, List.length_map, Int.toNat_natCast, f1, f2, go_sem, Int.reduceEq, Int.reduceLT, Nat.reduceEqDiff, Nat.reduceAdd, Nat.reduceMul, Nat.reduceLT, Nat.reduceLeDiff, Int.reduceToNat]
                    refine ⟨⟨by omega, by omega⟩, ?_⟩
                    try simp only [hget, List.length_map, Int.toNat_natCast, f1, f2, go_sem, Int.reduceEq, Int.reduceLT, Nat.reduceEqDiff, Nat.reduceAdd, Nat.reduceMul, Nat.reduceLT, Nat.reduceLeDiff, Int.reduceToNat]
                    exact ⟨_, rfl, by simp only [Bool.false_or, Bool.not_false, Bool.true_and, go_sem, Int.reduceEq, Int.reduceLT, Nat.reduceEqDiff, Nat.reduceAdd, Nat.reduceMul, Nat.reduceLT, Nat.reduceLeDiff, Int.reduceToNat]; try trivial⟩
                  · refine vregd tt_ok mixed hF rfl (by kernel_rfl) (by kernel_rfl) ?_
                    simp only [hget, List.length_map, Int.toNat_natCast, f1, f2, go_sem, Int.reduceEq, Int.reduceLT, Nat.reduceEqDiff, Nat.reduceAdd, Nat.reduceMul, Nat.reduceLT, Nat.reduceLeDiff, Int.reduceToNat]
                    refine ⟨⟨by omega, by omega⟩, ?_⟩
                    try simp only [hget, List.length_map, Int.toNat_natCast, f1, f2, go_sem, Int.reduceEq, Int.reduceLT, Nat.reduceEqDiff, Nat.reduceAdd, Nat.reduceMul, Nat.reduceLT, Nat.reduceLeDiff, Int.reduceToNat]
                    exact ⟨false, rfl, by simp only [go_sem, Int.reduceEq, Int.reduceLT, Nat.reduceEqDiff, Nat.reduceAdd, Nat.reduceMul, Nat.reduceLT, Nat.reduceLeDiff, Int.reduceToNat]; try trivial⟩
                · refine vregd tt_ok mixed hF rfl (by kernel_rfl) (by kernel_rfl) ?_
                  simp only [hget, List.length_map, Int.toNat_natCast, f1, go_sem, Int.reduceEq, Int.reduceLT, Nat.reduceEqDiff, Nat.reduceAdd, Nat.reduceMul, Nat.reduceLT, Nat.reduceLeDiff, Int.reduceToNat]
                  refine ⟨⟨by omega, by omega⟩, ?_⟩
                  try simp only [hget, List.length_map, Int.toNat_natCast, f1, go_sem, Int.reduceEq, Int.reduceLT, Nat.reduceEqDiff, Nat.reduceAdd, Nat.reduceMul, Nat.reduceLT, Nat.reduceLeDiff, Int.reduceToNat]
                  exact ⟨true, rfl, by simp only [go_sem, Int.reduceEq, Int.reduceLT, Nat.reduceEqDiff, Nat.reduceAdd, Nat.reduceMul, Nat.reduceLT, Nat.reduceLeDiff, Int.reduceToNat]; try trivial⟩
              rintro z hz
              refine vif rfl ⟨fun ht => ?_, fun hf => ?_⟩
              · rw [ht] at hz
                have hdup := hd2 hz.symm
                rw [if_neg (fun q => by rw [hdup] at q; cases q.2.2)] at hA
                injection hA with q1 q2
                subst q1; subst q2
                refine vwp_seq_k fun Nac hNac => vreg tt_ok hF rfl ?_; simp only [go_sem, Int.reduceEq, Int.reduceLT, Nat.reduceEqDiff, Nat.reduceAdd, Nat.reduceMul, Nat.reduceLT, Nat.reduceLeDiff, Int.reduceToNat]
                refine hNac _ (VWp.keep [4] [1000000,1000002] ?_); simp only [go_sem, Int.reduceEq, Int.reduceLT, Nat.reduceEqDiff, Nat.reduceAdd, Nat.reduceMul, Nat.reduceLT, Nat.reduceLeDiff, Int.reduceToNat]
                refine vwp_ret ?_
                simp only [go_sem, Int.reduceEq, Int.reduceLT, Nat.reduceEqDiff, Nat.reduceAdd, Nat.reduceMul, Nat.reduceLT, Nat.reduceLeDiff, Int.reduceToNat]
                first | done | exact LeV.refl _ | exact ⟨LeV.refl _, by first | rfl | simp⟩
              · rw [hf] at hz
                refine vwp_skip (hNaa _ ?_)
                refine vwp_seq_k fun Nad hNad => vregd tt_ok mixed hF rfl (by kernel_rfl) (by kernel_rfl) ?_
                rcases hat with ⟨a1, a2⟩ | ⟨a1, a2⟩
                · have f4 : decide (x.addr < u.addr) = true := decide_eq_true a2
                  have hm : min (k + 1) p = k + 1 := by omega
                  simp only [hget, List.length_map, Int.toNat_natCast, f4, go_sem, Int.reduceEq, Int.reduceLT, Nat.reduceEqDiff, Nat.reduceAdd, Nat.reduceMul, Nat.reduceLT, Nat.reduceLeDiff, Int.reduceToNat]
                  refine ⟨⟨by omega, by omega⟩, ?_⟩
                  refine hNad _ (VWp.keep [0,5,7,8,147] [5,1000000,1000002] ?_); simp only [go_sem, Int.reduceEq, Int.reduceLT, Nat.reduceEqDiff, Nat.reduceAdd, Nat.reduceMul, Nat.reduceLT, Nat.reduceLeDiff, Int.reduceToNat]
                  refine vif rfl ⟨fun ht => ?_, (fun hf => by first | cases hf | exact absurd hf (by decide))⟩
                  refine vreg tt_ok hF rfl ?_; simp only [go_sem, Int.reduceEq, Int.reduceLT, Nat.reduceEqDiff, Nat.reduceAdd, Nat.reduceMul, Nat.reduceLT, Nat.reduceLeDiff, Int.reduceToNat]
                  rw [wrap_i64 (by omega) (by omega), hm]
                  exact ⟨(), hz.symm, by simp⟩
                · have f4 : decide (x.addr < u.addr) = false := decide_eq_false a2
                  have hm : min (k + 1) p = min k p := by omega
                  simp only [hget, List.length_map, Int.toNat_natCast, f4, go_sem, Int.reduceEq, Int.reduceLT, Nat.reduceEqDiff, Nat.reduceAdd, Nat.reduceMul, Nat.reduceLT, Nat.reduceLeDiff, Int.reduceToNat]
                  refine ⟨⟨by omega, by omega⟩, ?_⟩
                  refine hNad _ (VWp.keep [0,5,7,8,147] [5,1000000,1000002] ?_); simp only [go_sem, Int.reduceEq, Int.reduceLT, Nat.reduceEqDiff, Nat.reduceAdd, Nat.reduceMul, Nat.reduceLT, Nat.reduceLeDiff, Int.reduceToNat]
                  refine vif rfl ⟨(fun hf => by first | cases hf | exact absurd hf (by decide)), fun ht => ?_⟩
                  refine vwp_skip ?_
                  rw [hm]
                  exact ⟨(), hz.symm, by simp only [go_sem, Int.reduceEq, Int.reduceLT, Nat.reduceEqDiff, Nat.reduceAdd, Nat.reduceMul, Nat.reduceLT, Nat.reduceLeDiff, Int.reduceToNat]; try trivial⟩
            intro _ hnd
            refine vreg tt_ok hF rfl ?_; simp only [go_sem, Int.reduceEq, Int.reduceLT, Nat.reduceEqDiff, Nat.reduceAdd, Nat.reduceMul, Nat.reduceLT, Nat.reduceLeDiff, Int.reduceToNat]
            rw [wrap_i64 (by omega) (by omega)]
            exact ⟨k + 1, ⟨by omega, by rw [hd1, hnd]⟩, by omega, by simp⟩
          · have hke : k = c.us.length := by have := of_decide_eq_false hf; omega
            have hm : min k p = p := by omega
            rw [hke, List.take_length] at hnd0
            rw [if_pos ⟨rfl, h16, hnd0⟩] at hA
            injection hA with q1 q2
            subst q1; subst q2
            rw [hm]
            refine vwp_exit ?_
            simp only [go_sem, Int.reduceEq, Int.reduceLT, Nat.reduceEqDiff, Nat.reduceAdd, Nat.reduceMul, Nat.reduceLT, Nat.reduceLeDiff, Int.reduceToNat]
            refine hNv _ (VWp.keepR [0,5,7] [5,1000000,1000002] tt_ok hF rfl fun Nae hNae => ?_); simp only [go_sem, Int.reduceEq, Int.reduceLT, Nat.reduceEqDiff, Nat.reduceAdd, Nat.reduceMul, Nat.reduceLT, Nat.reduceLeDiff, Int.reduceToNat]
            try simp only [List.length_map, Int.toNat_natCast]
            refine ⟨⟨by omega, by omega⟩, by (rw [List.length_take, List.length_map]; omega), ?_⟩
            refine hNae _ (VWp.keepR [0,5,7,9] [5,150,1000000,1000002] tt_ok hF rfl fun Naf hNaf => ?_); simp only [go_sem, Int.reduceEq, Int.reduceLT, Nat.reduceEqDiff, Nat.reduceAdd, Nat.reduceMul, Nat.reduceLT, Nat.reduceLeDiff, Int.reduceToNat]
            refine ⟨by (rw [List.length_take, List.length_map]; omega), ?_⟩
            refine hNaf _ (VWp.keep [0,7,9] [150,1000000,1000002] ?_); simp only [go_sem, Int.reduceEq, Int.reduceLT, Nat.reduceEqDiff, Nat.reduceAdd, Nat.reduceMul, Nat.reduceLT, Nat.reduceLeDiff, Int.reduceToNat]
            have hrows : (List.take p (c.us.map uniC) ++ [[V.int IntKind.i64 u.addr, V.int IntKind.i64 u.kind, V.str u.ser, V.int IntKind.i64 u.cyl, V.int IntKind.i64 u.head]]) ++ List.drop p (List.take c.us.length (c.us.map uniC)) = (c.us.take p ++ u :: c.us.drop p).map uniC := by
              have e : List.take c.us.length (c.us.map uniC) = c.us.map uniC := List.take_of_length_le (by simp)
              rw [e]
              simp [List.map_take, List.map_drop, uniC]
            refine vwp_seq_k fun Nag hNag => vreg tt_ok hF rfl ?_; simp only [go_sem, Int.reduceEq, Int.reduceLT, Nat.reduceEqDiff, Nat.reduceAdd, Nat.reduceMul, Nat.reduceLT, Nat.reduceLeDiff, Int.reduceToNat]
            refine ⟨⟨by omega, by omega, by omega⟩, by (rw [List.length_append, List.length_take, List.length_drop, List.length_take, List.length_map]; simp only [List.length_cons, List.length_nil]; omega), ?_⟩
            simp only [hrows]
            refine hNag _ (VWp.keep [] [150,1000000,1000002] ?_); simp only [go_sem, Int.reduceEq, Int.reduceLT, Nat.reduceEqDiff, Nat.reduceAdd, Nat.reduceMul, Nat.reduceLT, Nat.reduceLeDiff, Int.reduceToNat]
            refine VWp.lookB 1000000 0 (d := 150) rfl rfl rfl (by first | rfl | simp) (prvB_no rfl rfl) ?_
            refine VWp.keep [] [1000000,1000002] ?_; simp only [go_sem, Int.reduceEq, Int.reduceLT, Nat.reduceEqDiff, Nat.reduceAdd, Nat.reduceMul, Nat.reduceLT, Nat.reduceLeDiff, Int.reduceToNat]
            refine vwp_seq_k fun Nah hNah => vreg tt_ok hF rfl ?_; simp only [go_sem, Int.reduceEq, Int.reduceLT, Nat.reduceEqDiff, Nat.reduceAdd, Nat.reduceMul, Nat.reduceLT, Nat.reduceLeDiff, Int.reduceToNat]
            refine hNah _ (VWp.keep [4] [1000000,1000002] ?_); simp only [go_sem, Int.reduceEq, Int.reduceLT, Nat.reduceEqDiff, Nat.reduceAdd, Nat.reduceMul, Nat.reduceLT, Nat.reduceLeDiff, Int.reduceToNat]
            refine vwp_ret ?_
            simp only [go_sem, Int.reduceEq, Int.reduceLT, Nat.reduceEqDiff, Nat.reduceAdd, Nat.reduceMul, Nat.reduceLT, Nat.reduceLeDiff, Int.reduceToNat]
            first | done | exact LeV.refl _ | exact ⟨LeV.refl _, by first | rfl | simp⟩
      · have s3 : decide (w0 = ([85, 78, 73, 84] : Bs)) = false := decide_eq_false c3
        rw [add_other (by rw [hh]; exact c1) (by rw [hh]; exact c2) (by rw [hh]; exact c3)] at hA
        injection hA with q1 q2
        subst q1; subst q2
        refine vwp_seq_k fun Np hNp => vreg tt_ok hF rfl ?_; simp only [s3, go_sem, Int.reduceEq, Int.reduceLT, Nat.reduceEqDiff, Nat.reduceAdd, Nat.reduceMul, Nat.reduceLT, Nat.reduceLeDiff, Int.reduceToNat]
        refine hNp _ (VWp.keep [0,1,82] [1000000,1000002] ?_); simp only [go_sem, Int.reduceEq, Int.reduceLT, Nat.reduceEqDiff, Nat.reduceAdd, Nat.reduceMul, Nat.reduceLT, Nat.reduceLeDiff, Int.reduceToNat]
        refine vif rfl ⟨(fun hf => by first | cases hf | exact absurd hf (by decide)), fun ht => ?_⟩
        refine vwp_skip (hNb _ ?_)
        refine vwp_seq_k fun Nai hNai => vreg tt_ok hF rfl ?_; simp only [go_sem, Int.reduceEq, Int.reduceLT, Nat.reduceEqDiff, Nat.reduceAdd, Nat.reduceMul, Nat.reduceLT, Nat.reduceLeDiff, Int.reduceToNat]
        refine hNai _ (VWp.keep [4] [1000000,1000002] ?_); simp only [go_sem, Int.reduceEq, Int.reduceLT, Nat.reduceEqDiff, Nat.reduceAdd, Nat.reduceMul, Nat.reduceLT, Nat.reduceLeDiff, Int.reduceToNat]
        refine vwp_ret ?_
        simp only [go_sem, Int.reduceEq, Int.reduceLT, Nat.reduceEqDiff, Nat.reduceAdd, Nat.reduceMul, Nat.reduceLT, Nat.reduceLeDiff, Int.reduceToNat]
        first | done | exact LeV.refl _ | exact ⟨LeV.refl _, by first | rfl | simp⟩
end Go.Proofs.YtedbbinlcdgkoaaGreatDoor

import Derived.Outline
import Derived.Test.YtedbbinlcdgkoaaGreatDoorYK
import Derived.Test.YtedbbinlcdgkoaaGreatDoorQX

/- Layer 19: the law's classes, serial and Make. -/
namespace Go.Proofs.YtedbbinlcdgkoaaGreatDoor
open Go.RowKit Go.Lib
-- FUSE
-- LESS
set_option linter.unusedVariables false
set_option linter.unusedSimpArgs false
set_option maxHeartbeats 4000000 in
set_option maxRecDepth 4000 in
theorem classes_spec (n : Nat) (hn : n < 256) : Spec Tryz.prog 28 [.int .u8 n] (.str (classesT n)) := by
  have e1 : ((n : Int).tmod 8) = ((n % 8 : Nat) : Int) := by rw [tmod_pos (by omega)]; omega
  have e2 : ((n : Int).tdiv 8) = ((n / 8 : Nat) : Int) := by rw [tdiv_pos (by omega)]; omega
  have hm : n % 8 < 8 := Nat.mod_lt _ (by decide)
  have e3 : IntKind.i64.wrap (8 - ((n % 8 : Nat) : Int)) = ((8 - n % 8 : Nat) : Int) := by rw [wrap_i64 (by omega) (by omega)]; omega
  have e6 : IntKind.i64.wrap ((n / 8 : Nat) : Int) = ((n / 8 : Nat) : Int) := wrap_i64 (by omega) (by omega)
  have e4 : (((n / 8 : Nat) : Int).tmod ((8 - n % 8 : Nat) : Int)) = ((n / 8 % (8 - n % 8) : Nat) : Int) := by rw [tmod_pos (by omega)]; rfl
  have hl := Nat.mod_lt (n / 8) (show 0 < 8 - n % 8 by omega)
  obtain ⟨q, hq⟩ : ∃ q, n / 8 % (8 - n % 8) = q := ⟨_, rfl⟩
  rw [hq] at e4 hl
  have e7 : IntKind.i64.wrap (((n % 8 : Nat) : Int) + 1) = ((n % 8 + 1 : Nat) : Int) := by rw [wrap_i64 (by omega) (by omega)]; omega
  have e5 : IntKind.i64.wrap (((n % 8 + 1 : Nat) : Int) + (q : Int)) = ((n % 8 + 1 + q : Nat) : Int) := by rw [wrap_i64 (by omega) (by omega)]; omega
  have e8 : IntKind.i64.wrap (q : Int) = (q : Int) := wrap_i64 (by omega) (by omega)
  have e9 : IntKind.i64.wrap ((n % 8 : Nat) : Int) = ((n % 8 : Nat) : Int) := wrap_i64 (by omega) (by omega)
  have e0 : IntKind.i64.wrap (n : Int) = (n : Int) := wrap_i64 (by omega) (by omega)
  rw [show classesT n = (cls8.take (n % 8 + 1 + q)).drop (n % 8) from by unfold classesT; rw [hq]]
  unfold cls8
  refine spec_of tt_ok Tryz.func28 rfl (by decide) Tryz.ntmps28 (congrArg Array.toList Tryz.results28) (by simp) (by decide) rfl rfl (fun F hF => ?_)
  refine vwp_seq_k fun Na hNa => vreg tt_ok hF rfl ?_; simp only [go_sem, Int.reduceEq, Int.reduceLT, Nat.reduceEqDiff, Nat.reduceAdd, Nat.reduceMul, Nat.reduceLT, Nat.reduceLeDiff, Int.reduceToNat]
  refine hNa _ (VWp.keepR [0] [] tt_ok hF rfl fun Nb hNb => ?_); simp only [go_sem, Int.reduceEq, Int.reduceLT, Nat.reduceEqDiff, Nat.reduceAdd, Nat.reduceMul, Nat.reduceLT, Nat.reduceLeDiff, Int.reduceToNat]
  refine hNb _ (VWp.keepR [0,3] [] tt_ok hF rfl fun Nc hNc => ?_); simp only [e0, e1, e9, go_sem, Int.reduceEq, Int.reduceLT, Nat.reduceEqDiff, Nat.reduceAdd, Nat.reduceMul, Nat.reduceLT, Nat.reduceLeDiff, Int.reduceToNat]
  refine hNc _ (VWp.keepR [0,3,4] [] tt_ok hF rfl fun Nd hNd => ?_); simp only [e0, e2, e3, e4, e5, e6, e7, e8, e9, go_sem, Int.reduceEq, Int.reduceLT, Nat.reduceEqDiff, Nat.reduceAdd, Nat.reduceMul, Nat.reduceLT, Nat.reduceLeDiff, Int.reduceToNat]
  refine ⟨by omega, ⟨by omega, by omega, by omega⟩, ?_⟩
  refine hNd _ (VWp.keep [2] [] ?_); simp only [go_sem, Int.reduceEq, Int.reduceLT, Nat.reduceEqDiff, Nat.reduceAdd, Nat.reduceMul, Nat.reduceLT, Nat.reduceLeDiff, Int.reduceToNat]
  (refine vwp_ret ?_; simp only [go_sem, Int.reduceEq, Int.reduceLT, Nat.reduceEqDiff, Nat.reduceAdd, Nat.reduceMul, Nat.reduceLT, Nat.reduceLeDiff, Int.reduceToNat]; first | exact LeV.refl _ | exact LeV.of_eq (by simp))
set_option maxHeartbeats 4000000 in
set_option maxRecDepth 4000 in
theorem serial_spec (s : Bs) (i : Nat) (hi : i < 36) : Spec Tryz.prog 29 [.str s, .int .i64 i] (.str (serialT s i)) := by
  have e1 : IntKind.i64.wrap ((i : Int) + 1) = ((i + 1 : Nat) : Int) := by rw [wrap_i64 (by omega) (by omega)]; omega
  have hch : ∀ n < 36, List.drop n (List.take (n + 1) all36) = [all36.getD n 0] := by decide
  have hc0 : List.drop i (List.take (i + 1) all36) = [ch36 i] := by rw [hch i hi]; unfold ch36; rw [Nat.mod_eq_of_lt hi]
  have hal : all36.length = 36 := rfl
  refine spec_of tt_ok Tryz.func29 rfl (by decide) Tryz.ntmps29 (congrArg Array.toList Tryz.results29) (by simp) (by decide) rfl rfl (fun F hF => ?_)
  refine vwp_seq_k fun Na hNa => vreg tt_ok hF rfl ?_; simp only [go_sem, Int.reduceEq, Int.reduceLT, Nat.reduceEqDiff, Nat.reduceAdd, Nat.reduceMul, Nat.reduceLT, Nat.reduceLeDiff, Int.reduceToNat]   -- R0
  refine hNa _ (VWp.keepR [0,1] [] tt_ok hF rfl fun Nb hNb => ?_); simp only [go_sem, Int.reduceEq, Int.reduceLT, Nat.reduceEqDiff, Nat.reduceAdd, Nat.reduceMul, Nat.reduceLT, Nat.reduceLeDiff, Int.reduceToNat]   -- R1
  rw [show ([65, 66, 67, 68, 69, 70, 71, 72, 73, 74, 75, 76, 77, 78, 79, 80, 81, 82, 83, 84, 85, 86, 87, 88, 89, 90, 48, 49, 50, 51, 52, 53, 54, 55, 56, 57] : Bs) = all36 from rfl]
  refine hNb _ (VWp.keepR [0,1,5] [] tt_ok hF rfl fun Nc hNc => ?_); simp only [go_sem, Int.reduceEq, Int.reduceLT, Nat.reduceEqDiff, Nat.reduceAdd, Nat.reduceMul, Nat.reduceLT, Nat.reduceLeDiff, Int.reduceToNat]   -- R2
  simp only [e1, go_sem, Int.reduceEq, Int.reduceLT, Nat.reduceEqDiff, Nat.reduceAdd, Nat.reduceMul, Nat.reduceLT, Nat.reduceLeDiff, Int.reduceToNat]
  (repeat (refine ⟨by (try simp only [List.length_append, List.length_cons, List.length_nil]); omega, ?_⟩))
  refine hNc _ (VWp.keep [0,5,6] [] ?_); simp only [go_sem, Int.reduceEq, Int.reduceLT, Nat.reduceEqDiff, Nat.reduceAdd, Nat.reduceMul, Nat.reduceLT, Nat.reduceLeDiff, Int.reduceToNat]
  refine vwp_seq_k fun Nd hNd => ?_
  refine vwp_seq_k fun Ne hNe => vreg tt_ok hF rfl ?_; simp only [go_sem, Int.reduceEq, Int.reduceLT, Nat.reduceEqDiff, Nat.reduceAdd, Nat.reduceMul, Nat.reduceLT, Nat.reduceLeDiff, Int.reduceToNat]   -- R3
  refine hNe _ (VWp.keep [0,5,6,7] [] ?_); simp only [go_sem, Int.reduceEq, Int.reduceLT, Nat.reduceEqDiff, Nat.reduceAdd, Nat.reduceMul, Nat.reduceLT, Nat.reduceLeDiff, Int.reduceToNat]
  refine vwp_block ?_
  refine vloop (fun k : Nat => [(0, .str s), (5, .str all36), (6, .str (serialT (s.take k) i)), (7, .int .i64 (k : Int))]) (fun k => []) (fun k => k ≤ 5 ∧ k ≤ s.length) (fun k => 5 - k) 0 ⟨by omega, by omega⟩ (by simp only [go_sem, Int.reduceEq, Int.reduceLT, Nat.reduceEqDiff, Nat.reduceAdd, Nat.reduceMul, Nat.reduceLT, Nat.reduceLeDiff, Int.reduceToNat]; simp [hc0, serialT]) ?_
  rintro k ⟨hk, hkl⟩
  refine vwp_seq_k fun Nf hNf => ?_
  refine vmeet (fun b : Bool => [(0, .str s), (5, .str all36), (6, .str (serialT (s.take k) i)), (7, .int .i64 (k : Int)), (20, .bool b)]) (fun _ => []) (fun b => b = (decide (k < s.length) && decide (k < 5))) ?_ ?_
  · by_cases hq : k < s.length
    · have f1 : decide ((k : Int) < (s.length : Int)) = true := decide_eq_true (by omega)
      have f2 : decide ((k : Int) < 5) = decide (k < 5) := by apply decide_eq_decide.2; omega
      refine vreg tt_ok hF rfl ?_; simp only [go_sem, Int.reduceEq, Int.reduceLT, Nat.reduceEqDiff, Nat.reduceAdd, Nat.reduceMul, Nat.reduceLT, Nat.reduceLeDiff, Int.reduceToNat, f1, f2]
      exact ⟨_, rfl, by simp [hq]⟩
    · have f1 : decide ((k : Int) < (s.length : Int)) = false := decide_eq_false (by omega)
      refine vreg tt_ok hF rfl ?_; simp only [go_sem, Int.reduceEq, Int.reduceLT, Nat.reduceEqDiff, Nat.reduceAdd, Nat.reduceMul, Nat.reduceLT, Nat.reduceLeDiff, Int.reduceToNat, f1]
      exact ⟨_, rfl, by simp [hq]⟩
  intro b hb
  refine vif rfl ⟨fun ht => ?_, fun hf => ?_⟩
  · rw [ht] at hb
    have hb := Bool.and_eq_true_iff.1 hb.symm
    have hq : k < s.length := of_decide_eq_true hb.1
    have hq2 : k < 5 := of_decide_eq_true hb.2
    refine vwp_skip (hNf _ ?_)
    refine vwp_seq_k fun Nh hNh => ?_
    refine vwp_block ?_
    obtain ⟨x, hx⟩ : ∃ x, s.getD k 0 = x := ⟨_, rfl⟩
    have hxl := x.toNat_lt
    have g1 : IntKind.i64.wrap (x.toNat : Int) = (x.toNat : Int) := wrap_i64 (by omega) (by omega)
    have g2 : (x.toNat : Int).tmod 36 = ((x.toNat % 36 : Nat) : Int) := by rw [tmod_pos (by omega)]; omega
    have hm := Nat.mod_lt x.toNat (show 0 < 36 by decide)
    have g3 : IntKind.i64.wrap (((x.toNat % 36 : Nat) : Int) + 1) = ((x.toNat % 36 + 1 : Nat) : Int) := by rw [wrap_i64 (by omega) (by omega)]; omega
    have g4 : List.drop (x.toNat % 36) (List.take (x.toNat % 36 + 1) all36) = [ch36 x.toNat] := hch _ hm
    have g5 : serialT (s.take (k + 1)) i = serialT (s.take k) i ++ [ch36 x.toNat] := by
      unfold serialT
      rw [List.take_take, List.take_take, Nat.min_eq_right (by omega), Nat.min_eq_right (by omega), List.take_add_one, List.getElem?_eq_getElem hq]
      have : s[k] = x := by rw [← hx]; simp [List.getD, List.getElem?_eq_getElem hq]
      rw [this]; simp
    have g6 : (serialT (s.take k) i).length ≤ 6 := by unfold serialT; simp only [List.length_cons, List.length_map, List.length_take]; omega
    refine vregd tt_ok mixed hF rfl (by kernel_rfl) (by kernel_rfl) ?_
    simp only [hx, g1, g2, g3, go_sem, Int.reduceEq, Int.reduceLT, Nat.reduceEqDiff, Nat.reduceAdd, Nat.reduceMul, Nat.reduceLT, Nat.reduceLeDiff, Int.reduceToNat]
    refine ⟨⟨by omega, by omega⟩, ⟨by omega, by omega⟩, ⟨by omega, by omega, by omega⟩, ?_⟩
    simp only [Int.toNat_natCast, g4]
    refine ⟨by simp only [List.length_cons, List.length_nil]; omega, ?_⟩
    refine hNh _ (VWp.keep [0,5,6,7] [] ?_); simp only [go_sem, Int.reduceEq, Int.reduceLT, Nat.reduceEqDiff, Nat.reduceAdd, Nat.reduceMul, Nat.reduceLT, Nat.reduceLeDiff, Int.reduceToNat]
    refine vreg tt_ok hF rfl ?_; simp only [go_sem, Int.reduceEq, Int.reduceLT, Nat.reduceEqDiff, Nat.reduceAdd, Nat.reduceMul, Nat.reduceLT, Nat.reduceLeDiff, Int.reduceToNat]   -- R5
    rw [wrap_i64 (by omega) (by omega)]
    exact ⟨k + 1, by omega, by omega, by simp [g5]⟩
  · rw [hf] at hb
    have hd : s.take k = s.take 5 := by
      by_cases q : k < s.length
      · rw [decide_eq_true q, Bool.true_and] at hb
        have := of_decide_eq_false hb.symm
        rw [show k = 5 by omega]
      · rw [List.take_of_length_le (by omega), List.take_of_length_le (by omega)]
    have hd : serialT (s.take k) i = serialT s i := by rw [hd]; unfold serialT; rw [List.take_take, Nat.min_self]
    rw [hd]
    refine vwp_exit ?_
    simp only [go_sem, Int.reduceEq, Int.reduceLT, Nat.reduceEqDiff, Nat.reduceAdd, Nat.reduceMul, Nat.reduceLT, Nat.reduceLeDiff, Int.reduceToNat]
    refine hNd _ (VWp.keepR [6] [] tt_ok hF rfl fun Ni hNi => ?_); simp only [go_sem, Int.reduceEq, Int.reduceLT, Nat.reduceEqDiff, Nat.reduceAdd, Nat.reduceMul, Nat.reduceLT, Nat.reduceLeDiff, Int.reduceToNat]   -- R7
    refine hNi _ (VWp.keep [4] [] ?_); simp only [go_sem, Int.reduceEq, Int.reduceLT, Nat.reduceEqDiff, Nat.reduceAdd, Nat.reduceMul, Nat.reduceLT, Nat.reduceLeDiff, Int.reduceToNat]
    (refine vwp_ret ?_; simp only [go_sem, Int.reduceEq, Int.reduceLT, Nat.reduceEqDiff, Nat.reduceAdd, Nat.reduceMul, Nat.reduceLT, Nat.reduceLeDiff, Int.reduceToNat]; first | exact LeV.refl _ | exact LeV.of_eq (by simp))
end Go.Proofs.YtedbbinlcdgkoaaGreatDoor

/- Layer 19: the law's Make. -/
namespace Go.Proofs.YtedbbinlcdgkoaaGreatDoor
open Go.RowKit Go.Lib
-- FUSE
-- LESS
set_option linter.unusedVariables false
set_option linter.unusedSimpArgs false
theorem mod_conv (a : Int) (m : Nat) (h : 0 < m) (hm : m ≤ 1000) : IntKind.i64.wrap ((IntKind.u64.wrap a).tmod (m : Int)) = (modU a m : Int) := by
  have e1 : IntKind.u64.wrap a = (((a % 18446744073709551616).toNat : Nat) : Int) := by
    unfold IntKind.wrap; simp [IntKind.bits, IntKind.signed]; omega
  have h2 := modU_lt a h
  unfold modU at h2 ⊢
  rw [e1, tmod_pos (by omega), wrap_i64 (by omega) (by omega)]; rfl
theorem mod_u40 (a : Int) : IntKind.i64.wrap ((IntKind.u64.wrap a).tmod 40) = (modU a 40 : Int) := mod_conv a 40 (by decide) (by decide)
theorem mod_u5 (a : Int) : IntKind.i64.wrap ((IntKind.u64.wrap a).tmod 5) = (modU a 5 : Int) := mod_conv a 5 (by decide) (by decide)
theorem mod_u64 (a : Int) : IntKind.i64.wrap ((IntKind.u64.wrap a).tmod 64) = (modU a 64 : Int) := mod_conv a 64 (by decide) (by decide)
theorem mod_u8 (a : Int) : IntKind.i64.wrap ((IntKind.u64.wrap a).tmod 8) = (modU a 8 : Int) := mod_conv a 8 (by decide) (by decide)
def seedC (st : Nat) (ps : List UInt8) (us : List UniT) : List V := [.int .u8 st, .sl 1 (bytesR ps), .sl 5 (us.map uniC)]
set_option maxHeartbeats 16000000 in
set_option maxRecDepth 10000 in
theorem Make_spec (st : Nat) (hst : st < 256) (ps : List UInt8) (us : List UniT) : Spec Tryz.prog 9 [.agg (seedC st ps us)] (.agg (cfgC (makeT st ps us))) := by
  have e0 : IntKind.i64.wrap (st : Int) = (st : Int) := wrap_i64 (by omega) (by omega)
  have e1 : (st : Int).tmod 28 = ((st % 28 : Nat) : Int) := by rw [tmod_pos (by omega)]; omega
  have hm := Nat.mod_lt st (show 0 < 28 by decide)
  have e2 : IntKind.i64.wrap (2048 * ((st % 28 : Nat) : Int)) = ((2048 * (st % 28) : Nat) : Int) := by rw [wrap_i64 (by omega) (by omega)]; omega
  have e3 : IntKind.i64.wrap (10240 + ((2048 * (st % 28) : Nat) : Int)) = ((storeM st : Nat) : Int) := by unfold storeM; rw [wrap_i64 (by omega) (by omega)]; omega
  have hL : storeM st - 8192 = 2048 * (st % 28 + 1) := by unfold storeM; omega
  have hS : storeM st = 8192 + 2048 * (st % 28 + 1) := by unfold storeM; omega
  obtain ⟨M, hM⟩ : ∃ M, st % 28 + 1 = M := ⟨_, rfl⟩
  rw [hM] at hL hS
  have hM28 : M ≤ 28 := by omega
  obtain ⟨S, hSd⟩ : ∃ S, storeM st = S := ⟨_, rfl⟩
  rw [hSd] at e3 hL hS
  have e4 : IntKind.i64.wrap ((S : Int) - 8192) = ((2048 * M : Nat) : Int) := by rw [wrap_i64 (by omega) (by omega)]; omega
  obtain ⟨P, hP⟩ : ∃ P, (if ps = [] then [⟨2048, [65]⟩] else partsM (ps.take 4) (S - 8192)) = P := ⟨_, rfl⟩
  have hmk : makeT st ps us = ⟨unitsM (us.take 16) 0 (-1), (S : Nat), P⟩ := by unfold makeT; rw [hSd, hP]
  rw [hL] at hP
  rw [hmk]
  unfold seedC
  refine spec_of tt_ok Tryz.func9 rfl (by decide) Tryz.ntmps9 (congrArg Array.toList Tryz.results9) (by simp) (by decide) rfl rfl (fun F hF => ?_)
  refine vwp_seq_k fun Na hNa => vreg tt_ok hF rfl ?_; simp only [go_sem, Int.reduceEq, Int.reduceLT, Nat.reduceEqDiff, Nat.reduceAdd, Nat.reduceMul, Nat.reduceLT, Nat.reduceLeDiff, Int.reduceToNat]   -- R0
  refine hNa _ (VWp.keepR [1,2] [1,2] tt_ok hF rfl fun Nb hNb => ?_); simp only [go_sem, Int.reduceEq, Int.reduceLT, Nat.reduceEqDiff, Nat.reduceAdd, Nat.reduceMul, Nat.reduceLT, Nat.reduceLeDiff, Int.reduceToNat]   -- R1
  simp only [e0, e1, e2, e3, go_sem, Int.reduceEq, Int.reduceLT, Nat.reduceEqDiff, Nat.reduceAdd, Nat.reduceMul, Nat.reduceLT, Nat.reduceLeDiff, Int.reduceToNat]
  refine hNb _ (VWp.keepR [1,2,3] [1,2,3] tt_ok hF rfl fun Nc hNc => ?_); simp only [go_sem, Int.reduceEq, Int.reduceLT, Nat.reduceEqDiff, Nat.reduceAdd, Nat.reduceMul, Nat.reduceLT, Nat.reduceLeDiff, Int.reduceToNat]   -- R2
  simp only [e4, go_sem, Int.reduceEq, Int.reduceLT, Nat.reduceEqDiff, Nat.reduceAdd, Nat.reduceMul, Nat.reduceLT, Nat.reduceLeDiff, Int.reduceToNat]
  refine hNc _ (VWp.keep [1,2,3,4] [1,2,3] ?_); simp only [go_sem, Int.reduceEq, Int.reduceLT, Nat.reduceEqDiff, Nat.reduceAdd, Nat.reduceMul, Nat.reduceLT, Nat.reduceLeDiff, Int.reduceToNat]
  refine VWp.adoptB 500001 2 65 (o := 3) (i := 2) rfl rfl rfl (by decide) ?_
  refine VWp.keep [1,2,3,4] [1,2,3,500001] ?_; simp only [go_sem, Int.reduceEq, Int.reduceLT, Nat.reduceEqDiff, Nat.reduceAdd, Nat.reduceMul, Nat.reduceLT, Nat.reduceLeDiff, Int.reduceToNat]
  refine vwp_seq_k fun Nd hNd => ?_
  refine vwp_seq_k fun Ne hNe => vreg tt_ok hF rfl ?_; simp only [go_sem, Int.reduceEq, Int.reduceLT, Nat.reduceEqDiff, Nat.reduceAdd, Nat.reduceMul, Nat.reduceLT, Nat.reduceLeDiff, Int.reduceToNat]   -- R3
  refine hNe _ (VWp.keep [1,2,3,4,5] [1,2,3,500001] ?_); simp only [go_sem, Int.reduceEq, Int.reduceLT, Nat.reduceEqDiff, Nat.reduceAdd, Nat.reduceMul, Nat.reduceLT, Nat.reduceLeDiff, Int.reduceToNat]
  refine vwp_block ?_
  refine vloop (fun z : Nat × Nat × List ParT => [(1, .ptr 1 0), (2, .ptr 2 0), (3, .ptr 3 0), (4, .int .i64 ((2048 * z.2.1 : Nat) : Int)), (5, .int .i64 (z.1 : Int))])
    (fun z => [(1, .box 28 [.int .u8 st, .sl 1 (bytesR ps), .sl 5 (us.map uniC)]), (2, .box 25 [.nil, .int .i64 0, .nil]), (3, .box 25 [.nil, .int .i64 (S : Int), .own 500001 z.2.2.length]), (500001, .arr 2 65 (z.2.2.map parC))])
    (fun z => z.1 ≤ 4 ∧ z.1 ≤ ps.length ∧ z.2.1 ≤ M ∧ z.2.2.length = z.1 ∧ partsM (ps.take 4) (2048 * M) = z.2.2 ++ partsM ((ps.take 4).drop z.1) (2048 * z.2.1)) (fun z => 4 - z.1) (0, M, []) ⟨by omega, by omega, by simp, rfl, by simp⟩ (by simp only [List.map_nil, List.length_nil, go_sem, Int.reduceEq, Int.reduceLT, Nat.reduceEqDiff, Nat.reduceAdd, Nat.reduceMul, Nat.reduceLT, Nat.reduceLeDiff, Int.reduceToNat]; try simp) ?_
  rintro ⟨k, m, acc⟩ ⟨hk, hkl, hmM, hal, hpm⟩
  simp only at hk hkl hmM hal hpm
  refine vwp_seq_k fun Nf hNf => ?_
  refine vmeet (fun b : Bool => [(1, .ptr 1 0), (2, .ptr 2 0), (3, .ptr 3 0), (4, .int .i64 ((2048 * m : Nat) : Int)), (5, .int .i64 (k : Int)), (32, .bool b)])
    (fun _ => [(1, .box 28 [.int .u8 st, .sl 1 (bytesR ps), .sl 5 (us.map uniC)]), (2, .box 25 [.nil, .int .i64 0, .nil]), (3, .box 25 [.nil, .int .i64 (S : Int), .own 500001 acc.length]), (500001, .arr 2 65 (acc.map parC))])
    (fun b => b = (decide (k < ps.length) && decide (k < 4) && decide (0 < m))) ?_ ?_
  · have f3 : decide ((0 : Int) < ((2048 * m : Nat) : Int)) = decide (0 < m) := by apply decide_eq_decide.2; omega
    by_cases hq : k < ps.length
    · have f1 : decide ((k : Int) < (ps.length : Int)) = true := decide_eq_true (by omega)
      by_cases hq2 : k < 4
      · have f2 : decide ((k : Int) < 4) = true := decide_eq_true (by omega)
        refine vreg tt_ok hF rfl ?_; simp only [go_sem, Int.reduceEq, Int.reduceLT, Nat.reduceEqDiff, Nat.reduceAdd, Nat.reduceMul, Nat.reduceLT, Nat.reduceLeDiff, Int.reduceToNat, f1, f2, f3, bytesR_len]
        exact ⟨_, rfl, by simp [hq, hq2]⟩
      · have f2 : decide ((k : Int) < 4) = false := decide_eq_false (by omega)
        refine vreg tt_ok hF rfl ?_; simp only [go_sem, Int.reduceEq, Int.reduceLT, Nat.reduceEqDiff, Nat.reduceAdd, Nat.reduceMul, Nat.reduceLT, Nat.reduceLeDiff, Int.reduceToNat, f1, f2, f3, bytesR_len]
        exact ⟨_, rfl, by simp [hq, hq2]⟩
    · have f1 : decide ((k : Int) < (ps.length : Int)) = false := decide_eq_false (by omega)
      refine vreg tt_ok hF rfl ?_; simp only [go_sem, Int.reduceEq, Int.reduceLT, Nat.reduceEqDiff, Nat.reduceAdd, Nat.reduceMul, Nat.reduceLT, Nat.reduceLeDiff, Int.reduceToNat, f1, f3, bytesR_len]
      exact ⟨_, rfl, by simp [hq]⟩
  intro b hb
  refine vif rfl ⟨fun ht => ?_, fun hf => ?_⟩
  · rw [ht] at hb
    have hb := hb.symm
    rw [Bool.and_eq_true_iff, Bool.and_eq_true_iff] at hb
    have hq : k < ps.length := of_decide_eq_true hb.1.1
    have hq2 : k < 4 := of_decide_eq_true hb.1.2
    have hm0 : 0 < m := of_decide_eq_true hb.2
    have hget := bytesR_at hq
    obtain ⟨x, hx⟩ : ∃ x, ps[k] = x := ⟨_, rfl⟩
    rw [hx] at hget
    have hxl := x.toNat_lt
    have g0 : IntKind.i64.wrap (x.toNat : Int) = (x.toNat : Int) := wrap_i64 (by omega) (by omega)
    have g1 : ((2048 * m : Nat) : Int).tdiv 2048 = (m : Int) := by rw [tdiv_pos (by omega)]; omega
    have g2 : (x.toNat : Int).tmod (m : Int) = ((x.toNat % m : Nat) : Int) := by rw [tmod_pos (by omega)]; rfl
    have hxm := Nat.mod_lt x.toNat hm0
    have hdr : (ps.take 4).drop k = x :: (ps.take 4).drop (k + 1) := by rw [List.drop_eq_getElem_cons (by simp; omega), List.getElem_take, hx]
    have hdm : 2048 * m / 2048 = m := Nat.mul_div_cancel_left m (by decide)
    rw [hdr, partsM, if_neg (by omega), hdm] at hpm
    obtain ⟨q, hqq⟩ : ∃ q, x.toNat % m = q := ⟨_, rfl⟩
    rw [hqq] at hpm g2 hxm
    have g3 : IntKind.i64.wrap (1 + (q : Int)) = ((1 + q : Nat) : Int) := by rw [wrap_i64 (by omega) (by omega)]; omega
    have g4 : IntKind.i64.wrap (2048 * ((1 + q : Nat) : Int)) = ((2048 * (1 + q) : Nat) : Int) := by rw [wrap_i64 (by omega) (by omega)]; omega
    have g5 : IntKind.i64.wrap (((2048 * m : Nat) : Int) - ((2048 * (1 + q) : Nat) : Int)) = ((2048 * (m - (1 + q)) : Nat) : Int) := by rw [wrap_i64 (by omega) (by omega)]; omega
    have g6 : 2048 * m - 2048 * (1 + q) = 2048 * (m - (1 + q)) := by omega
    have g7 : IntKind.i64.wrap (m : Int) = (m : Int) := wrap_i64 (by omega) (by omega)
    have g8 : IntKind.i64.wrap (q : Int) = (q : Int) := wrap_i64 (by omega) (by omega)
    rw [g6] at hpm
    have hcl := classes_spec x.toNat (by omega)
    refine vwp_skip (hNf _ ?_)
    refine vwp_seq_k fun Nh hNh => ?_
    refine vwp_block ?_
    refine vwp_seq_k fun Ni hNi => vreg tt_ok hF rfl ?_; simp only [go_sem, Int.reduceEq, Int.reduceLT, Nat.reduceEqDiff, Nat.reduceAdd, Nat.reduceMul, Nat.reduceLT, Nat.reduceLeDiff, Int.reduceToNat]   -- R6
    simp only [hget, bytesR_len, Int.toNat_natCast, g0, g1, g2, g3, g4, g7, g8, go_sem, Int.reduceEq, Int.reduceLT, Nat.reduceEqDiff, Nat.reduceAdd, Nat.reduceMul, Nat.reduceLT, Nat.reduceLeDiff, Int.reduceToNat]
    refine ⟨⟨by omega, by omega⟩, by omega, ?_⟩
    refine hNi _ (VWp.keep [1,2,3,4,5,6] [1,2,3,500001] ?_); simp only [go_sem, Int.reduceEq, Int.reduceLT, Nat.reduceEqDiff, Nat.reduceAdd, Nat.reduceMul, Nat.reduceLT, Nat.reduceLeDiff, Int.reduceToNat]
    refine vwp_seq_k fun Nj hNj => vregd tt_ok mixed hF rfl (by kernel_rfl) (by kernel_rfl) ?_
    simp only [hget, bytesR_len, Int.toNat_natCast, go_sem, Int.reduceEq, Int.reduceLT, Nat.reduceEqDiff, Nat.reduceAdd, Nat.reduceMul, Nat.reduceLT, Nat.reduceLeDiff, Int.reduceToNat]
    refine ⟨⟨by omega, by omega⟩, ?_⟩
    refine .inl ⟨_, hcl, ?_⟩; try simp only [go_sem, Int.reduceEq, Int.reduceLT, Nat.reduceEqDiff, Nat.reduceAdd, Nat.reduceMul, Nat.reduceLT, Nat.reduceLeDiff, Int.reduceToNat]
    refine ⟨by omega, ?_⟩
    refine hNj _ (VWp.keep [1,2,3,4,5,6] [1,2,3,500001] ?_); simp only [go_sem, Int.reduceEq, Int.reduceLT, Nat.reduceEqDiff, Nat.reduceAdd, Nat.reduceMul, Nat.reduceLT, Nat.reduceLeDiff, Int.reduceToNat]
    refine vreg tt_ok hF rfl ?_; simp only [go_sem, Int.reduceEq, Int.reduceLT, Nat.reduceEqDiff, Nat.reduceAdd, Nat.reduceMul, Nat.reduceLT, Nat.reduceLeDiff, Int.reduceToNat]   -- R8
    simp only [g5, go_sem, Int.reduceEq, Int.reduceLT, Nat.reduceEqDiff, Nat.reduceAdd, Nat.reduceMul, Nat.reduceLT, Nat.reduceLeDiff, Int.reduceToNat]
    refine hNh _ (VWp.keep [1,2,3,4,5] [1,2,3,500001] ?_); simp only [go_sem, Int.reduceEq, Int.reduceLT, Nat.reduceEqDiff, Nat.reduceAdd, Nat.reduceMul, Nat.reduceLT, Nat.reduceLeDiff, Int.reduceToNat]
    refine vreg tt_ok hF rfl ?_; simp only [go_sem, Int.reduceEq, Int.reduceLT, Nat.reduceEqDiff, Nat.reduceAdd, Nat.reduceMul, Nat.reduceLT, Nat.reduceLeDiff, Int.reduceToNat]   -- R5
    rw [wrap_i64 (by omega) (by omega)]
    refine ⟨(k + 1, m - (1 + q), acc ++ [⟨((2048 * (1 + q) : Nat) : Int), classesT x.toNat⟩]), ⟨by simp only; omega, by simp only; omega, by simp only; omega, by simp [hal], by rw [hpm]; simp⟩, by simp only; omega, by simp [parC]⟩
  · have hacc : partsM (ps.take 4) (2048 * M) = acc := by
      rw [hf] at hb
      rw [hpm]
      by_cases hq : k < ps.length
      · by_cases hq2 : k < 4
        · rw [decide_eq_true hq, decide_eq_true hq2, Bool.true_and, Bool.true_and] at hb
          have hm0 : m = 0 := by have := of_decide_eq_false hb.symm; omega
          subst hm0
          have : partsM ((ps.take 4).drop k) (2048 * 0) = [] := by cases (ps.take 4).drop k <;> rfl
          rw [this, List.append_nil]
        · rw [List.drop_eq_nil_of_le (by simp; omega)]; simp [partsM]
      · rw [List.drop_eq_nil_of_le (by simp; omega)]; simp [partsM]
    refine vwp_exit ?_
    simp only [go_sem, Int.reduceEq, Int.reduceLT, Nat.reduceEqDiff, Nat.reduceAdd, Nat.reduceMul, Nat.reduceLT, Nat.reduceLeDiff, Int.reduceToNat]
    refine hNd _ (VWp.keep [1,2,3] [1,2,3,500001] ?_); simp only [go_sem, Int.reduceEq, Int.reduceLT, Nat.reduceEqDiff, Nat.reduceAdd, Nat.reduceMul, Nat.reduceLT, Nat.reduceLeDiff, Int.reduceToNat]
    refine VWp.lookB 3 2 (d := 500001) rfl rfl rfl (by simp) (prvB_no rfl rfl) ?_
    refine VWp.keep [1,2,3] [1,2,3] ?_; simp only [go_sem, Int.reduceEq, Int.reduceLT, Nat.reduceEqDiff, Nat.reduceAdd, Nat.reduceMul, Nat.reduceLT, Nat.reduceLeDiff, Int.reduceToNat]
    refine vmeet (fun _ : Bool => [(1, .ptr 1 0), (2, .ptr 2 0), (3, .ptr 3 0)])
      (fun z => match z with
        | true => [(1, .box 28 [.int .u8 st, .sl 1 (bytesR ps), .sl 5 (us.map uniC)]), (2, .box 25 [.nil, .int .i64 0, .nil]), (3, .box 25 [.nil, .int .i64 (S : Int), .own 67 1]), (67, .arr 2 65 [[.int .i64 2048, .str [65]]])]
        | false => [(1, .box 28 [.int .u8 st, .sl 1 (bytesR ps), .sl 5 (us.map uniC)]), (2, .box 25 [.nil, .int .i64 0, .nil]), (3, .box 25 [.nil, .int .i64 (S : Int), .sl 2 (P.map parC)])])
      (fun z => z = true → P = [⟨2048, [65]⟩]) ?_ ?_
    · by_cases hpe : ps = []
      · subst hpe
        rw [if_pos rfl] at hP
        subst hP
        have : acc = [] := by have := hkl; simp only [List.length_nil] at this; exact List.length_eq_zero_iff.1 (by omega)
        subst this
        refine vwp_seq_k fun Nl hNl => vreg tt_ok hF rfl ?_; simp only [go_sem, Int.reduceEq, Int.reduceLT, Nat.reduceEqDiff, Nat.reduceAdd, Nat.reduceMul, Nat.reduceLT, Nat.reduceLeDiff, Int.reduceToNat]   -- R9
        try simp only [List.map_nil, List.length_nil, go_sem, Int.reduceEq, Int.reduceLT, Nat.reduceEqDiff, Nat.reduceAdd, Nat.reduceMul, Nat.reduceLT, Nat.reduceLeDiff, Int.reduceToNat]
        refine hNl _ (VWp.keep [1,2,3,65] [1,2,3] ?_); simp only [go_sem, Int.reduceEq, Int.reduceLT, Nat.reduceEqDiff, Nat.reduceAdd, Nat.reduceMul, Nat.reduceLT, Nat.reduceLeDiff, Int.reduceToNat]
        refine vif rfl ⟨fun ht => ?_, (fun hf => by first | cases hf | exact absurd hf (by decide))⟩
        refine vreg tt_ok hF rfl ?_; simp only [go_sem, Int.reduceEq, Int.reduceLT, Nat.reduceEqDiff, Nat.reduceAdd, Nat.reduceMul, Nat.reduceLT, Nat.reduceLeDiff, Int.reduceToNat]   -- R10
        exact ⟨true, (fun _ => by first | rfl | trivial), by simp only [go_sem, Int.reduceEq, Int.reduceLT, Nat.reduceEqDiff, Nat.reduceAdd, Nat.reduceMul, Nat.reduceLT, Nat.reduceLeDiff, Int.reduceToNat]; try simp⟩
      · rw [if_neg hpe, hacc] at hP
        subst hP
        have hne : decide ((acc.length : Int) = 0) = false := by
          have : acc.length ≠ 0 := by
            intro q
            rw [List.length_eq_zero_iff.1 q] at hacc
            cases ps with
            | nil => exact hpe rfl
            | cons b r => rw [List.take_succ_cons, partsM, if_neg (by omega)] at hacc; cases hacc
          exact decide_eq_false (by omega)
        refine vwp_seq_k fun Nl hNl => vreg tt_ok hF rfl ?_; simp only [go_sem, Int.reduceEq, Int.reduceLT, Nat.reduceEqDiff, Nat.reduceAdd, Nat.reduceMul, Nat.reduceLT, Nat.reduceLeDiff, Int.reduceToNat]   -- R9
        simp only [List.length_map, hne, go_sem, Int.reduceEq, Int.reduceLT, Nat.reduceEqDiff, Nat.reduceAdd, Nat.reduceMul, Nat.reduceLT, Nat.reduceLeDiff, Int.reduceToNat]
        refine hNl _ (VWp.keep [1,2,3,65] [1,2,3] ?_); simp only [go_sem, Int.reduceEq, Int.reduceLT, Nat.reduceEqDiff, Nat.reduceAdd, Nat.reduceMul, Nat.reduceLT, Nat.reduceLeDiff, Int.reduceToNat]
        refine vif rfl ⟨(fun ht => by cases ht), fun hf => ?_⟩
        refine vwp_skip ?_
        exact ⟨false, (fun q => by cases q), by simp only [go_sem, Int.reduceEq, Int.reduceLT, Nat.reduceEqDiff, Nat.reduceAdd, Nat.reduceMul, Nat.reduceLT, Nat.reduceLeDiff, Int.reduceToNat]; try simp⟩
    intro z hz
    refine vmeet (fun _ : Unit => [(1, .ptr 1 0), (2, .ptr 2 0), (3, .ptr 3 0), (7, .int .i64 (-1))])
      (fun _ => [(1, .box 28 [.int .u8 st, .sl 1 (bytesR ps), .sl 5 (us.map uniC)]), (2, .box 25 [.nil, .int .i64 0, .nil]), (3, .box 25 [.nil, .int .i64 (S : Int), .sl 2 (P.map parC)])])
      (fun _ => True) ?_ ?_
    · cases z
      · refine vreg tt_ok hF rfl ?_; simp only [go_sem, Int.reduceEq, Int.reduceLT, Nat.reduceEqDiff, Nat.reduceAdd, Nat.reduceMul, Nat.reduceLT, Nat.reduceLeDiff, Int.reduceToNat]
        first | exact trivial | rfl | exact ⟨(), trivial⟩ | exact ⟨(), trivial, by simp⟩
      · rw [hz rfl]
        refine VWp.lookB 3 2 (d := 67) rfl rfl rfl rfl (prvB_no rfl rfl) ?_
        refine VWp.keep [1,2,3] [1,2,3] ?_; simp only [go_sem, Int.reduceEq, Int.reduceLT, Nat.reduceEqDiff, Nat.reduceAdd, Nat.reduceMul, Nat.reduceLT, Nat.reduceLeDiff, Int.reduceToNat]
        refine vreg tt_ok hF rfl ?_; simp only [go_sem, Int.reduceEq, Int.reduceLT, Nat.reduceEqDiff, Nat.reduceAdd, Nat.reduceMul, Nat.reduceLT, Nat.reduceLeDiff, Int.reduceToNat]
        first | exact trivial | rfl | simp [parC] | exact ⟨(), trivial, by simp [parC]⟩
    intro _ _
    refine VWp.adoptB 500000 5 58 (o := 3) (i := 0) rfl rfl rfl (by decide) ?_
    refine VWp.keep [1,2,3,7] [1,2,3,500000] ?_; simp only [go_sem, Int.reduceEq, Int.reduceLT, Nat.reduceEqDiff, Nat.reduceAdd, Nat.reduceMul, Nat.reduceLT, Nat.reduceLeDiff, Int.reduceToNat]
    refine vwp_seq_k fun Nn hNn => ?_
    refine vwp_seq_k fun No hNo => vreg tt_ok hF rfl ?_; simp only [go_sem, Int.reduceEq, Int.reduceLT, Nat.reduceEqDiff, Nat.reduceAdd, Nat.reduceMul, Nat.reduceLT, Nat.reduceLeDiff, Int.reduceToNat]   -- R12
    refine hNo _ (VWp.keep [1,2,3,7,8] [1,2,3,500000] ?_); simp only [go_sem, Int.reduceEq, Int.reduceLT, Nat.reduceEqDiff, Nat.reduceAdd, Nat.reduceMul, Nat.reduceLT, Nat.reduceLeDiff, Int.reduceToNat]
    refine vwp_block ?_
    refine vloop (fun z : Nat × Int × List UniT => [(1, .ptr 1 0), (2, .ptr 2 0), (3, .ptr 3 0), (7, .int .i64 z.2.1), (8, .int .i64 (z.1 : Int))])
      (fun z => [(1, .box 28 [.int .u8 st, .sl 1 (bytesR ps), .sl 5 (us.map uniC)]), (2, .box 25 [.nil, .int .i64 0, .nil]), (3, .box 25 [.own 500000 z.2.2.length, .int .i64 (S : Int), .sl 2 (P.map parC)]), (500000, .arr 5 58 (z.2.2.map uniC))])
      (fun z => z.1 ≤ 16 ∧ z.1 ≤ us.length ∧ -1 ≤ z.2.1 ∧ z.2.1 < 40 * z.1 ∧ z.2.2.length = z.1 ∧ unitsM (us.take 16) 0 (-1) = z.2.2 ++ unitsM ((us.take 16).drop z.1) z.1 z.2.1) (fun z => 16 - z.1) (0, -1, []) ⟨by omega, by omega, by simp, by simp, rfl, by simp⟩ (by simp only [List.map_nil, List.length_nil, go_sem, Int.reduceEq, Int.reduceLT, Nat.reduceEqDiff, Nat.reduceAdd, Nat.reduceMul, Nat.reduceLT, Nat.reduceLeDiff, Int.reduceToNat]; try simp) ?_
    rintro ⟨k, ad, ac⟩ ⟨hk, hkl, ha1, ha2, hal, hpm⟩
    simp only at hk hkl ha1 ha2 hal hpm
    refine vwp_seq_k fun Np hNp => ?_
    refine vmeet (fun b : Bool => [(1, .ptr 1 0), (2, .ptr 2 0), (3, .ptr 3 0), (7, .int .i64 ad), (8, .int .i64 (k : Int)), (77, .bool b)])
      (fun _ => [(1, .box 28 [.int .u8 st, .sl 1 (bytesR ps), .sl 5 (us.map uniC)]), (2, .box 25 [.nil, .int .i64 0, .nil]), (3, .box 25 [.own 500000 ac.length, .int .i64 (S : Int), .sl 2 (P.map parC)]), (500000, .arr 5 58 (ac.map uniC))])
      (fun b => b = (decide (k < us.length) && decide (k < 16))) ?_ ?_
    · by_cases hq : k < us.length
      · have f1 : decide ((k : Int) < (us.length : Int)) = true := decide_eq_true (by omega)
        have f2 : decide ((k : Int) < 16) = decide (k < 16) := by apply decide_eq_decide.2; omega
        refine vreg tt_ok hF rfl ?_; simp only [go_sem, Int.reduceEq, Int.reduceLT, Nat.reduceEqDiff, Nat.reduceAdd, Nat.reduceMul, Nat.reduceLT, Nat.reduceLeDiff, Int.reduceToNat, f1, f2, List.length_map]
        exact ⟨_, rfl, by simp [hq]⟩
      · have f1 : decide ((k : Int) < (us.length : Int)) = false := decide_eq_false (by omega)
        refine vreg tt_ok hF rfl ?_; simp only [go_sem, Int.reduceEq, Int.reduceLT, Nat.reduceEqDiff, Nat.reduceAdd, Nat.reduceMul, Nat.reduceLT, Nat.reduceLeDiff, Int.reduceToNat, f1, List.length_map]
        exact ⟨_, rfl, by simp [hq]⟩
    intro b hb
    refine vif rfl ⟨fun ht => ?_, fun hf => ?_⟩
    · rw [ht] at hb
      have hb := Bool.and_eq_true_iff.1 hb.symm
      have hq : k < us.length := of_decide_eq_true hb.1
      have hq2 : k < 16 := of_decide_eq_true hb.2
      have hget := uni_row hq
      obtain ⟨u, hu⟩ : ∃ u, us[k] = u := ⟨_, rfl⟩
      rw [hu] at hget
      have hdr : (us.take 16).drop k = u :: (us.take 16).drop (k + 1) := by rw [List.drop_eq_getElem_cons (by simp; omega), List.getElem_take, hu]
      rw [hdr, unitsM] at hpm
      have m1 := modU_lt u.addr (show 0 < 40 by decide)
      have m2 := modU_lt u.kind (show 0 < 5 by decide)
      have m3 := modU_lt u.cyl (show 0 < 64 by decide)
      have m4 := modU_lt u.head (show 0 < 8 by decide)
      have c1 := mod_u40 u.addr
      have c2 := mod_u5 u.kind
      have c3 := mod_u64 u.cyl
      have c4 := mod_u8 u.head
      obtain ⟨NU, hNU⟩ : ∃ x, mkU u k ad = x := ⟨_, rfl⟩
      have hNU2 : NU = ⟨ad + 1 + (modU u.addr 40 : Nat), ((1 + modU u.kind 5 : Nat) : Int), if 1 + modU u.kind 5 = 4 ∨ 1 + modU u.kind 5 = 5 then serialT u.ser k else [], if 1 + modU u.kind 5 = 5 then ((1 + modU u.cyl 64 : Nat) : Int) else 0, if 1 + modU u.kind 5 = 5 then ((1 + modU u.head 8 : Nat) : Int) else 0⟩ := by rw [← hNU]; rfl
      rw [hNU] at hpm
      obtain ⟨A, hA⟩ : ∃ A, modU u.addr 40 = A := ⟨_, rfl⟩
      obtain ⟨K, hK⟩ : ∃ K, modU u.kind 5 = K := ⟨_, rfl⟩
      obtain ⟨Y, hY⟩ : ∃ Y, modU u.cyl 64 = Y := ⟨_, rfl⟩
      obtain ⟨H, hH⟩ : ∃ H, modU u.head 8 = H := ⟨_, rfl⟩
      rw [hA] at m1 c1 hNU2 hpm
      rw [hK] at m2 c2 hNU2
      rw [hY] at m3 c3 hNU2
      rw [hH] at m4 c4 hNU2
      have d1 : IntKind.i64.wrap (ad + 1) = ad + 1 := wrap_i64 (by omega) (by omega)
      have d2 : IntKind.i64.wrap (ad + 1 + (A : Int)) = ad + 1 + (A : Int) := wrap_i64 (by omega) (by omega)
      have d3 : IntKind.i64.wrap (1 + (K : Int)) = ((1 + K : Nat) : Int) := by rw [wrap_i64 (by omega) (by omega)]; omega
      have d4 : IntKind.i64.wrap (1 + (Y : Int)) = ((1 + Y : Nat) : Int) := by rw [wrap_i64 (by omega) (by omega)]; omega
      have d5 : IntKind.i64.wrap (1 + (H : Int)) = ((1 + H : Nat) : Int) := by rw [wrap_i64 (by omega) (by omega)]; omega
      have hser := serial_spec u.ser k (by omega)
      refine vwp_skip (hNp _ ?_)
      refine vwp_seq_k fun Nr hNr => ?_
      refine vwp_block ?_
      refine vwp_seq_k fun Ns hNs => vreg tt_ok hF rfl ?_; simp only [go_sem, Int.reduceEq, Int.reduceLT, Nat.reduceEqDiff, Nat.reduceAdd, Nat.reduceMul, Nat.reduceLT, Nat.reduceLeDiff, Int.reduceToNat]   -- R15
      simp only [hget, List.length_map, Int.toNat_natCast, go_sem, Int.reduceEq, Int.reduceLT, Nat.reduceEqDiff, Nat.reduceAdd, Nat.reduceMul, Nat.reduceLT, Nat.reduceLeDiff, Int.reduceToNat]
      refine ⟨⟨by omega, by omega⟩, ?_⟩
      refine hNs _ (VWp.keepR [1,2,3,7,8,9] [1,2,3,9,500000] tt_ok hF rfl fun Nt hNt => ?_); simp only [go_sem, Int.reduceEq, Int.reduceLT, Nat.reduceEqDiff, Nat.reduceAdd, Nat.reduceMul, Nat.reduceLT, Nat.reduceLeDiff, Int.reduceToNat]   -- R16
      simp only [d1, c1, d2, go_sem, Int.reduceEq, Int.reduceLT, Nat.reduceEqDiff, Nat.reduceAdd, Nat.reduceMul, Nat.reduceLT, Nat.reduceLeDiff, Int.reduceToNat]
      refine hNt _ (VWp.keepR [1,2,3,8,9] [1,2,3,9,500000] tt_ok hF rfl fun Nu hNu => ?_); simp only [go_sem, Int.reduceEq, Int.reduceLT, Nat.reduceEqDiff, Nat.reduceAdd, Nat.reduceMul, Nat.reduceLT, Nat.reduceLeDiff, Int.reduceToNat]   -- R17
      refine hNu _ (VWp.keepR [1,2,3,7,8,9] [1,2,3,9,500000] tt_ok hF rfl fun Nv hNv => ?_); simp only [go_sem, Int.reduceEq, Int.reduceLT, Nat.reduceEqDiff, Nat.reduceAdd, Nat.reduceMul, Nat.reduceLT, Nat.reduceLeDiff, Int.reduceToNat]   -- R18
      simp only [c2, d3, go_sem, Int.reduceEq, Int.reduceLT, Nat.reduceEqDiff, Nat.reduceAdd, Nat.reduceMul, Nat.reduceLT, Nat.reduceLeDiff, Int.reduceToNat]
      refine hNv _ (VWp.keep [1,2,3,7,8,9] [1,2,3,9,500000] ?_); simp only [go_sem, Int.reduceEq, Int.reduceLT, Nat.reduceEqDiff, Nat.reduceAdd, Nat.reduceMul, Nat.reduceLT, Nat.reduceLeDiff, Int.reduceToNat]
      refine vmeet (fun _ : Unit => [(1, .ptr 1 0), (2, .ptr 2 0), (3, .ptr 3 0), (7, .int .i64 (ad + 1 + (A : Int))), (8, .int .i64 (k : Int)), (9, .ptr 9 0)])
        (fun _ => [(1, .box 28 [.int .u8 st, .sl 1 (bytesR ps), .sl 5 (us.map uniC)]), (2, .box 25 [.nil, .int .i64 0, .nil]), (3, .box 25 [.own 500000 ac.length, .int .i64 (S : Int), .sl 2 (P.map parC)]), (500000, .arr 5 58 (ac.map uniC)), (9, .box 58 (uniC NU))])
        (fun _ => True) ?_ ?_
      · by_cases hK4 : K = 3
        · subst hK4
          have hNU3 : NU = ⟨ad + 1 + (A : Int), 4, serialT u.ser k, 0, 0⟩ := by rw [hNU2]; simp
          rw [hNU3]
          refine vwp_seq_k fun Nx hNx => vreg tt_ok hF rfl ?_; simp only [go_sem, Int.reduceEq, Int.reduceLT, Nat.reduceEqDiff, Nat.reduceAdd, Nat.reduceMul, Nat.reduceLT, Nat.reduceLeDiff, Int.reduceToNat]   -- R19
          refine hNx _ (VWp.keep [1,2,3,7,8,9,104] [1,2,3,9,500000] ?_); simp only [go_sem, Int.reduceEq, Int.reduceLT, Nat.reduceEqDiff, Nat.reduceAdd, Nat.reduceMul, Nat.reduceLT, Nat.reduceLeDiff, Int.reduceToNat]
          refine vwp_block ?_
          refine vwp_seq_k fun Ny hNy => vreg tt_ok hF rfl ?_; simp only [go_sem, Int.reduceEq, Int.reduceLT, Nat.reduceEqDiff, Nat.reduceAdd, Nat.reduceMul, Nat.reduceLT, Nat.reduceLeDiff, Int.reduceToNat]   -- R21
          refine hNy _ (VWp.keep [1,2,3,7,8,9,104,108] [1,2,3,9,500000] ?_); simp only [go_sem, Int.reduceEq, Int.reduceLT, Nat.reduceEqDiff, Nat.reduceAdd, Nat.reduceMul, Nat.reduceLT, Nat.reduceLeDiff, Int.reduceToNat]
          refine vif rfl ⟨fun ht => ?_, (fun hf => by first | cases hf | exact absurd hf (by decide))⟩
          refine vreg tt_ok hF rfl ?_; simp only [go_sem, Int.reduceEq, Int.reduceLT, Nat.reduceEqDiff, Nat.reduceAdd, Nat.reduceMul, Nat.reduceLT, Nat.reduceLeDiff, Int.reduceToNat]   -- R22
          refine .inl ⟨_, hser, ?_⟩; try simp only [go_sem, Int.reduceEq, Int.reduceLT, Nat.reduceEqDiff, Nat.reduceAdd, Nat.reduceMul, Nat.reduceLT, Nat.reduceLeDiff, Int.reduceToNat]
          exact ⟨(), rfl, by first | exact trivial | (simp only [uniC, go_sem, Int.reduceEq, Int.reduceLT, Nat.reduceEqDiff, Nat.reduceAdd, Nat.reduceMul, Nat.reduceLT, Nat.reduceLeDiff, Int.reduceToNat])⟩
        · by_cases hK5 : K = 4
          · subst hK5
            have hNU3 : NU = ⟨ad + 1 + (A : Int), 5, serialT u.ser k, ((1 + Y : Nat) : Int), ((1 + H : Nat) : Int)⟩ := by rw [hNU2]; simp
            rw [hNU3]
            refine vwp_seq_k fun Nx hNx => vreg tt_ok hF rfl ?_; simp only [go_sem, Int.reduceEq, Int.reduceLT, Nat.reduceEqDiff, Nat.reduceAdd, Nat.reduceMul, Nat.reduceLT, Nat.reduceLeDiff, Int.reduceToNat]   -- R19
            refine hNx _ (VWp.keep [1,2,3,7,8,9,104] [1,2,3,9,500000] ?_); simp only [go_sem, Int.reduceEq, Int.reduceLT, Nat.reduceEqDiff, Nat.reduceAdd, Nat.reduceMul, Nat.reduceLT, Nat.reduceLeDiff, Int.reduceToNat]
            refine vwp_block ?_
            refine vwp_seq_k fun Ny hNy => vreg tt_ok hF rfl ?_; simp only [go_sem, Int.reduceEq, Int.reduceLT, Nat.reduceEqDiff, Nat.reduceAdd, Nat.reduceMul, Nat.reduceLT, Nat.reduceLeDiff, Int.reduceToNat]   -- R21
            refine hNy _ (VWp.keep [1,2,3,7,8,9,104,108] [1,2,3,9,500000] ?_); simp only [go_sem, Int.reduceEq, Int.reduceLT, Nat.reduceEqDiff, Nat.reduceAdd, Nat.reduceMul, Nat.reduceLT, Nat.reduceLeDiff, Int.reduceToNat]
            refine vif rfl ⟨(fun hf => by first | cases hf | exact absurd hf (by decide)), fun ht => ?_⟩
            refine vwp_seq_k fun Nz hNz => vreg tt_ok hF rfl ?_; simp only [go_sem, Int.reduceEq, Int.reduceLT, Nat.reduceEqDiff, Nat.reduceAdd, Nat.reduceMul, Nat.reduceLT, Nat.reduceLeDiff, Int.reduceToNat]   -- R23
            refine hNz _ (VWp.keep [1,2,3,7,8,9,117] [1,2,3,9,500000] ?_); simp only [go_sem, Int.reduceEq, Int.reduceLT, Nat.reduceEqDiff, Nat.reduceAdd, Nat.reduceMul, Nat.reduceLT, Nat.reduceLeDiff, Int.reduceToNat]
            refine vif rfl ⟨fun ht => ?_, (fun hf => by first | cases hf | exact absurd hf (by decide))⟩
            refine vregord tt_ok mixed hF rfl .no [[0, 1, 2, 3, 4, 5, 6, 7, 8, 9, 10, 11, 12, 13, 14, 15, 16, 17, 18, 19, 20, 21], [0, 1, 2, 3, 4, 5, 6, 7, 8, 9, 10, 11, 12, 13, 16, 17, 14, 15, 18, 19, 20, 21], [0, 1, 2, 3, 4, 5, 6, 7, 8, 9, 10, 11, 12, 13, 16, 17, 18, 19, 14, 15, 20, 21], [0, 1, 2, 3, 4, 5, 6, 7, 8, 9, 10, 11, 16, 17, 12, 13, 14, 15, 18, 19, 20, 21], [0, 1, 2, 3, 4, 5, 6, 7, 8, 9, 10, 11, 16, 17, 12, 13, 18, 19, 14, 15, 20, 21], [0, 1, 2, 3, 4, 5, 6, 7, 8, 9, 10, 11, 16, 17, 18, 19, 12, 13, 14, 15, 20, 21], [0, 1, 2, 3, 4, 5, 6, 7, 10, 11, 12, 13, 14, 15, 16, 17, 8, 9, 18, 19, 20, 21], [0, 1, 2, 3, 4, 5, 6, 7, 10, 11, 12, 13, 16, 17, 8, 9, 14, 15, 18, 19, 20, 21], [0, 1, 2, 3, 4, 5, 6, 7, 10, 11, 12, 13, 16, 17, 8, 9, 18, 19, 14, 15, 20, 21], [0, 1, 2, 3, 4, 5, 6, 7, 10, 11, 16, 17, 8, 9, 12, 13, 14, 15, 18, 19, 20, 21], [0, 1, 2, 3, 4, 5, 6, 7, 10, 11, 16, 17, 8, 9, 12, 13, 18, 19, 14, 15, 20, 21], [0, 1, 2, 3, 4, 5, 6, 7, 10, 11, 16, 17, 8, 9, 18, 19, 12, 13, 14, 15, 20, 21], [0, 1, 2, 3, 4, 5, 10, 11, 12, 13, 14, 15, 16, 17, 6, 7, 8, 9, 18, 19, 20, 21], [0, 1, 2, 3, 4, 5, 10, 11, 12, 13, 16, 17, 6, 7, 8, 9, 14, 15, 18, 19, 20, 21], [0, 1, 2, 3, 4, 5, 10, 11, 12, 13, 16, 17, 6, 7, 8, 9, 18, 19, 14, 15, 20, 21], [0, 1, 2, 3, 4, 5, 10, 11, 16, 17, 6, 7, 8, 9, 12, 13, 14, 15, 18, 19, 20, 21], [0, 1, 2, 3, 4, 5, 10, 11, 16, 17, 6, 7, 8, 9, 12, 13, 18, 19, 14, 15, 20, 21], [0, 1, 2, 3, 4, 5, 10, 11, 16, 17, 6, 7, 8, 9, 18, 19, 12, 13, 14, 15, 20, 21]] [(122, (.str (serialT u.ser k), []))] (by kernel_rfl) ?_
            refine ⟨?_, ?_, ?_, ?_, ?_, ?_, ?_, ?_, ?_, ?_, ?_, ?_, ?_, ?_, ?_, ?_, ?_, ?_, trivial⟩ <;> simp only [pickL, c3, c4, d4, d5, go_sem, Int.reduceEq, Int.reduceLT, Nat.reduceEqDiff, Nat.reduceAdd, Nat.reduceMul, Nat.reduceLT, Nat.reduceLeDiff, Int.reduceToNat]
            all_goals
              refine .inl ⟨_, hser, ?_⟩
              try simp only [go_sem, Int.reduceEq, Int.reduceLT, Nat.reduceEqDiff, Nat.reduceAdd, Nat.reduceMul, Nat.reduceLT, Nat.reduceLeDiff, Int.reduceToNat]
              try refine ⟨rfl, ?_⟩
              exact ⟨(), by simp only [uniC, c3, c4, d4, d5], by first | exact trivial | (simp only [uniC, go_sem, Int.reduceEq, Int.reduceLT, Nat.reduceEqDiff, Nat.reduceAdd, Nat.reduceMul, Nat.reduceLT, Nat.reduceLeDiff, Int.reduceToNat])⟩
          · have hk4 : decide (((1 + K : Nat) : Int) = 4) = false := decide_eq_false (by omega)
            have hk5 : decide (((1 + K : Nat) : Int) = 5) = false := decide_eq_false (by omega)
            have hNU3 : NU = ⟨ad + 1 + (A : Int), ((1 + K : Nat) : Int), [], 0, 0⟩ := by rw [hNU2, if_neg (by omega), if_neg (by omega), if_neg (by omega)]
            rw [hNU3]
            refine vwp_seq_k fun Nx hNx => vreg tt_ok hF rfl ?_; simp only [go_sem, Int.reduceEq, Int.reduceLT, Nat.reduceEqDiff, Nat.reduceAdd, Nat.reduceMul, Nat.reduceLT, Nat.reduceLeDiff, Int.reduceToNat]   -- R19
            refine hNx _ (VWp.keep [1,2,3,7,8,9,104] [1,2,3,9,500000] ?_); simp only [go_sem, Int.reduceEq, Int.reduceLT, Nat.reduceEqDiff, Nat.reduceAdd, Nat.reduceMul, Nat.reduceLT, Nat.reduceLeDiff, Int.reduceToNat]
            refine vwp_block ?_
            refine vwp_seq_k fun Ny hNy => vreg tt_ok hF rfl ?_; simp only [go_sem, Int.reduceEq, Int.reduceLT, Nat.reduceEqDiff, Nat.reduceAdd, Nat.reduceMul, Nat.reduceLT, Nat.reduceLeDiff, Int.reduceToNat]   -- R21
            simp only [hk4, go_sem, Int.reduceEq, Int.reduceLT, Nat.reduceEqDiff, Nat.reduceAdd, Nat.reduceMul, Nat.reduceLT, Nat.reduceLeDiff, Int.reduceToNat]
            refine hNy _ (VWp.keep [1,2,3,7,8,9,104,108] [1,2,3,9,500000] ?_); simp only [go_sem, Int.reduceEq, Int.reduceLT, Nat.reduceEqDiff, Nat.reduceAdd, Nat.reduceMul, Nat.reduceLT, Nat.reduceLeDiff, Int.reduceToNat]
            refine vif rfl ⟨(fun hf => by first | cases hf | exact absurd hf (by decide)), fun ht => ?_⟩
            refine vwp_seq_k fun Nz hNz => vreg tt_ok hF rfl ?_; simp only [go_sem, Int.reduceEq, Int.reduceLT, Nat.reduceEqDiff, Nat.reduceAdd, Nat.reduceMul, Nat.reduceLT, Nat.reduceLeDiff, Int.reduceToNat]   -- R23
            simp only [hk5, go_sem, Int.reduceEq, Int.reduceLT, Nat.reduceEqDiff, Nat.reduceAdd, Nat.reduceMul, Nat.reduceLT, Nat.reduceLeDiff, Int.reduceToNat]
            refine hNz _ (VWp.keep [1,2,3,7,8,9,117] [1,2,3,9,500000] ?_); simp only [go_sem, Int.reduceEq, Int.reduceLT, Nat.reduceEqDiff, Nat.reduceAdd, Nat.reduceMul, Nat.reduceLT, Nat.reduceLeDiff, Int.reduceToNat]
            refine vif rfl ⟨(fun hf => by first | cases hf | exact absurd hf (by decide)), fun ht => ?_⟩
            refine vreg tt_ok hF rfl ?_; simp only [go_sem, Int.reduceEq, Int.reduceLT, Nat.reduceEqDiff, Nat.reduceAdd, Nat.reduceMul, Nat.reduceLT, Nat.reduceLeDiff, Int.reduceToNat]
            exact ⟨(), rfl, by first | exact trivial | (simp only [uniC, go_sem, Int.reduceEq, Int.reduceLT, Nat.reduceEqDiff, Nat.reduceAdd, Nat.reduceMul, Nat.reduceLT, Nat.reduceLeDiff, Int.reduceToNat])⟩
      intro _ _
      unfold uniC
      refine vreg tt_ok hF rfl ?_; simp only [go_sem, Int.reduceEq, Int.reduceLT, Nat.reduceEqDiff, Nat.reduceAdd, Nat.reduceMul, Nat.reduceLT, Nat.reduceLeDiff, Int.reduceToNat]   -- R25
      refine ⟨by omega, ?_⟩
      refine hNr _ (VWp.keep [1,2,3,7,8] [1,2,3,500000] ?_); simp only [go_sem, Int.reduceEq, Int.reduceLT, Nat.reduceEqDiff, Nat.reduceAdd, Nat.reduceMul, Nat.reduceLT, Nat.reduceLeDiff, Int.reduceToNat]
      refine vreg tt_ok hF rfl ?_; simp only [go_sem, Int.reduceEq, Int.reduceLT, Nat.reduceEqDiff, Nat.reduceAdd, Nat.reduceMul, Nat.reduceLT, Nat.reduceLeDiff, Int.reduceToNat]   -- R14
      rw [wrap_i64 (by omega) (by omega)]
      refine ⟨(k + 1, ad + 1 + (A : Int), ac ++ [NU]), ⟨by simp only; omega, by simp only; omega, by simp only; omega, by simp only; omega, by simp [hal], by rw [hpm]; simp⟩, by simp only; omega, by simp [uniC]⟩
    · have hacc : unitsM (us.take 16) 0 (-1) = ac := by
        rw [hf] at hb
        rw [hpm]
        by_cases hq : k < us.length
        · rw [decide_eq_true hq, Bool.true_and] at hb
          have := of_decide_eq_false hb.symm
          rw [List.drop_eq_nil_of_le (by simp; omega)]; simp [unitsM]
        · rw [List.drop_eq_nil_of_le (by simp; omega)]; simp [unitsM]
      rw [hacc]
      refine vwp_exit ?_
      simp only [go_sem, Int.reduceEq, Int.reduceLT, Nat.reduceEqDiff, Nat.reduceAdd, Nat.reduceMul, Nat.reduceLT, Nat.reduceLeDiff, Int.reduceToNat]
      refine hNn _ (VWp.keepR [2,3] [2,3,500000] tt_ok hF rfl fun Naa hNaa => ?_); simp only [go_sem, Int.reduceEq, Int.reduceLT, Nat.reduceEqDiff, Nat.reduceAdd, Nat.reduceMul, Nat.reduceLT, Nat.reduceLeDiff, Int.reduceToNat]   -- R26
      refine hNaa _ (VWp.keep [2] [2,500000] ?_); simp only [go_sem, Int.reduceEq, Int.reduceLT, Nat.reduceEqDiff, Nat.reduceAdd, Nat.reduceMul, Nat.reduceLT, Nat.reduceLeDiff, Int.reduceToNat]
      refine vwp_ret ?_
      simp only [go_sem, Int.reduceEq, Int.reduceLT, Nat.reduceEqDiff, Nat.reduceAdd, Nat.reduceMul, Nat.reduceLT, Nat.reduceLeDiff, Int.reduceToNat]
      first | exact LeV.of_eq (by simp only [cfgC, hacc]) | exact ⟨LeV.of_eq (by simp only [cfgC, hacc]), by simp⟩
end Go.Proofs.YtedbbinlcdgkoaaGreatDoor

import Derived.Outline
import Derived.Test.YtedbbinlcdgkoaaGreatDoorYE
import Derived.Test.YtedbbinlcdgkoaaGreatDoorYB
import Derived.Test.YtedbbinlcdgkoaaGreatDoorQX
/- Layer 19, the reference: numbers, addresses, lines, Print. -/
namespace Go.Proofs.YtedbbinlcdgkoaaGreatDoor
open Go.RowKit Go.Lib
-- FUSE
-- LESS
set_option linter.unusedVariables false
set_option linter.unusedSimpArgs false
set_option maxHeartbeats 4000000 in
set_option maxRecDepth 4000 in
theorem rdig_spec : ∀ n < 10, Spec Tryz.prog 32 [.int .i64 ((n : Nat) : Int)] (.str [UInt8.ofNat (48 + n)]) := by
  intro n hn
  have h : n = 0 ∨ n = 1 ∨ n = 2 ∨ n = 3 ∨ n = 4 ∨ n = 5 ∨ n = 6 ∨ n = 7 ∨ n = 8 ∨ n = 9 := by omega
  rcases h with rfl | rfl | rfl | rfl | rfl | rfl | rfl | rfl | rfl | rfl
  all_goals
    refine spec_of tt_ok Tryz.func32 rfl (by decide) Tryz.ntmps32 (congrArg Array.toList Tryz.results32) (by simp) (by decide) rfl rfl (fun F hF => ?_)
    refine vwp_seq_k fun Na hNa => vreg tt_ok hF rfl ?_; simp only [go_sem, Int.reduceEq, Int.reduceLT, Nat.reduceEqDiff, Nat.reduceAdd, Nat.reduceMul, Nat.reduceLT, Nat.reduceLeDiff, Int.reduceToNat]
    refine hNa _ (VWp.keep [0] [] ?_); simp only [go_sem, Int.reduceEq, Int.reduceLT, Nat.reduceEqDiff, Nat.reduceAdd, Nat.reduceMul, Nat.reduceLT, Nat.reduceLeDiff, Int.reduceToNat]
    refine vwp_seq_k fun Nb hNb => ?_
    refine vwp_seq_k fun Nc hNc => vreg tt_ok hF rfl ?_; simp only [go_sem, Int.reduceEq, Int.reduceLT, Nat.reduceEqDiff, Nat.reduceAdd, Nat.reduceMul, Nat.reduceLT, Nat.reduceLeDiff, Int.reduceToNat]
    refine hNc _ (VWp.keep [0,4] [] ?_); simp only [go_sem, Int.reduceEq, Int.reduceLT, Nat.reduceEqDiff, Nat.reduceAdd, Nat.reduceMul, Nat.reduceLT, Nat.reduceLeDiff, Int.reduceToNat]
    refine vif rfl ⟨fun ht => ?_, (fun hf => by cases hf)⟩
    refine vwp_seq_k fun Nd hNd => vreg tt_ok hF rfl ?_; simp only [go_sem, Int.reduceEq, Int.reduceLT, Nat.reduceEqDiff, Nat.reduceAdd, Nat.reduceMul, Nat.reduceLT, Nat.reduceLeDiff, Int.reduceToNat]
    refine hNd _ (VWp.keep [2] [] ?_); simp only [go_sem, Int.reduceEq, Int.reduceLT, Nat.reduceEqDiff, Nat.reduceAdd, Nat.reduceMul, Nat.reduceLT, Nat.reduceLeDiff, Int.reduceToNat]
    refine vwp_ret ?_
    simp only [go_sem, Int.reduceEq, Int.reduceLT, Nat.reduceEqDiff, Nat.reduceAdd, Nat.reduceMul, Nat.reduceLT, Nat.reduceLeDiff, Int.reduceToNat]
    first | exact LeV.refl _ | exact LeV.of_eq (by rfl)
set_option maxHeartbeats 4000000 in
set_option maxRecDepth 4000 in
theorem rNumber_spec : ∀ n : Nat, n ≤ 1000000000 → Spec Tryz.prog 32 [.int .i64 (n : Int)] (.str (decDigits n)) := by
  intro n
  induction n using Nat.strongRecOn with
  | _ n ih =>
    intro hn
    by_cases h : n < 10
    · rw [decDigits, dif_pos h]; exact rdig_spec n h
    · rw [decDigits, dif_neg h]
      have h1 := ih (n / 10) (by omega) (by omega)
      have h2 := rdig_spec (n % 10) (by omega)
      have hdl := dec_len 10 (n / 10) (by omega) (by omega)
      have e1 : ((n : Int).tdiv 10) = ((n / 10 : Nat) : Int) := by rw [Int.tdiv_eq_ediv_of_nonneg (by omega)]; omega
      have e2 : ((n : Int).tmod 10) = ((n % 10 : Nat) : Int) := by rw [Int.tmod_eq_emod_of_nonneg (by omega)]; omega
      have e3 : IntKind.i64.wrap ((n / 10 : Nat) : Int) = ((n / 10 : Nat) : Int) := wrap_i64 (by omega) (by omega)
      refine spec_of tt_ok Tryz.func32 rfl (by decide) Tryz.ntmps32 (congrArg Array.toList Tryz.results32) (by simp) (by decide) rfl rfl (fun F hF => ?_)
      refine vwp_seq_k fun Na hNa => vreg tt_ok hF rfl ?_; simp only [go_sem, Int.reduceEq, Int.reduceLT, Nat.reduceEqDiff, Nat.reduceAdd, Nat.reduceMul, Nat.reduceLT, Nat.reduceLeDiff, Int.reduceToNat]
      refine hNa _ (VWp.keep [0] [] ?_); simp only [go_sem, Int.reduceEq, Int.reduceLT, Nat.reduceEqDiff, Nat.reduceAdd, Nat.reduceMul, Nat.reduceLT, Nat.reduceLeDiff, Int.reduceToNat]
      refine vwp_seq_k fun Nb hNb => ?_
      refine vwp_seq_k fun Nc hNc => vreg tt_ok hF rfl ?_; simp only [go_sem, Int.reduceEq, Int.reduceLT, Nat.reduceEqDiff, Nat.reduceAdd, Nat.reduceMul, Nat.reduceLT, Nat.reduceLeDiff, Int.reduceToNat]
      refine hNc _ (VWp.keep [0,4] [] ?_); simp only [go_sem, Int.reduceEq, Int.reduceLT, Nat.reduceEqDiff, Nat.reduceAdd, Nat.reduceMul, Nat.reduceLT, Nat.reduceLeDiff, Int.reduceToNat]
      refine vif rfl ⟨(fun hf => by have := of_decide_eq_true hf; omega), fun hf => ?_⟩
      refine vwp_skip (hNb _ ?_)
      refine vwp_seq_k fun Ne hNe => vreg tt_ok hF rfl ?_; simp only [go_sem, Int.reduceEq, Int.reduceLT, Nat.reduceEqDiff, Nat.reduceAdd, Nat.reduceMul, Nat.reduceLT, Nat.reduceLeDiff, Int.reduceToNat]
      simp only [e1, e2, e3]
      refine .inl ⟨_, h1, ?_⟩; try simp only [go_sem, Int.reduceEq, Int.reduceLT, Nat.reduceEqDiff, Nat.reduceAdd, Nat.reduceMul, Nat.reduceLT, Nat.reduceLeDiff, Int.reduceToNat]
      refine .inl ⟨_, h2, ?_⟩; try simp only [go_sem, Int.reduceEq, Int.reduceLT, Nat.reduceEqDiff, Nat.reduceAdd, Nat.reduceMul, Nat.reduceLT, Nat.reduceLeDiff, Int.reduceToNat]
      (repeat (refine ⟨by (try simp only [List.length_append, List.length_cons, List.length_nil]); omega, ?_⟩))
      refine hNe _ (VWp.keep [2] [] ?_); simp only [go_sem, Int.reduceEq, Int.reduceLT, Nat.reduceEqDiff, Nat.reduceAdd, Nat.reduceMul, Nat.reduceLT, Nat.reduceLeDiff, Int.reduceToNat]
      refine vwp_ret ?_
      simp only [go_sem, Int.reduceEq, Int.reduceLT, Nat.reduceEqDiff, Nat.reduceAdd, Nat.reduceMul, Nat.reduceLT, Nat.reduceLeDiff, Int.reduceToNat]
      exact LeV.refl _
theorem rNum_int (n : Int) (h0 : 0 ≤ n) (hn : n ≤ 1000000000) : Spec Tryz.prog 32 [.int .i64 n] (.str (decI n)) := by
  have := rNumber_spec n.toNat (by omega)
  rw [Int.toNat_of_nonneg h0] at this
  exact this
theorem hex_cut : ∀ q < 16, List.drop q (48 :: List.take q [49, 50, 51, 52, 53, 54, 55, 56, 57, 65, 66, 67, 68, 69, 70]) = [hexD q] := by decide
set_option maxHeartbeats 4000000 in
set_option maxRecDepth 4000 in
theorem rhex_spec (n : Nat) (hn : n < 4096) : Spec Tryz.prog 54 [.int .i64 (n : Int)] (.str (hex3 n)) := by
  have e1 : ((n : Int).tdiv 256) = ((n / 256 : Nat) : Int) := by rw [Int.tdiv_eq_ediv_of_nonneg (by omega)]; omega
  have e2 : ((n : Int).tdiv 16) = ((n / 16 : Nat) : Int) := by rw [Int.tdiv_eq_ediv_of_nonneg (by omega)]; omega
  have e3 : (((n / 16 : Nat) : Int).tmod 16) = ((n / 16 % 16 : Nat) : Int) := by rw [Int.tmod_eq_emod_of_nonneg (by omega)]; omega
  have e4 : ((n : Int).tmod 16) = ((n % 16 : Nat) : Int) := by rw [Int.tmod_eq_emod_of_nonneg (by omega)]; omega
  have w1 : IntKind.i64.wrap ((n / 256 : Nat) : Int) = ((n / 256 : Nat) : Int) := wrap_i64 (by omega) (by omega)
  have w2 : IntKind.i64.wrap ((n / 16 : Nat) : Int) = ((n / 16 : Nat) : Int) := wrap_i64 (by omega) (by omega)
  unfold hex3
  obtain ⟨a, ea⟩ : ∃ a, n / 256 = a := ⟨_, rfl⟩
  obtain ⟨b, eb⟩ : ∃ b, n / 16 % 16 = b := ⟨_, rfl⟩
  obtain ⟨c, ec⟩ : ∃ c, n % 16 = c := ⟨_, rfl⟩
  have ha : a < 16 := by omega
  have hb : b < 16 := by omega
  have hc : c < 16 := by omega
  rw [ea] at e1 w1
  rw [eb] at e3
  rw [ec] at e4
  rw [ea, eb, ec]
  have ca := hex_cut a ha
  have cb := hex_cut b hb
  have cc := hex_cut c hc
  have x1 : IntKind.i64.wrap ((a : Int) + 1) = ((a + 1 : Nat) : Int) := by rw [wrap_i64 (by omega) (by omega)]; omega
  have x2 : IntKind.i64.wrap ((b : Int) + 1) = ((b + 1 : Nat) : Int) := by rw [wrap_i64 (by omega) (by omega)]; omega
  have x3 : IntKind.i64.wrap ((c : Int) + 1) = ((c + 1 : Nat) : Int) := by rw [wrap_i64 (by omega) (by omega)]; omega
  refine spec_of tt_ok Tryz.func54 rfl (by decide) Tryz.ntmps54 (congrArg Array.toList Tryz.results54) (by simp) (by decide) rfl rfl (fun F hF => ?_)
  refine vwp_seq_k fun Na hNa => vreg tt_ok hF rfl ?_; simp only [go_sem, Int.reduceEq, Int.reduceLT, Nat.reduceEqDiff, Nat.reduceAdd, Nat.reduceMul, Nat.reduceLT, Nat.reduceLeDiff, Int.reduceToNat]
  refine hNa _ (VWp.keepR [0] [] tt_ok hF rfl fun Nb hNb => ?_); simp only [go_sem, Int.reduceEq, Int.reduceLT, Nat.reduceEqDiff, Nat.reduceAdd, Nat.reduceMul, Nat.reduceLT, Nat.reduceLeDiff, Int.reduceToNat]
  refine hNb _ (VWp.keepR [0,3] [] tt_ok hF rfl fun Nc hNc => ?_); simp only [e1, e2, e3, e4, w1, w2, go_sem, Int.reduceEq, Int.reduceLT, Nat.reduceEqDiff, Nat.reduceAdd, Nat.reduceMul, Nat.reduceLT, Nat.reduceLeDiff, Int.reduceToNat]
  refine hNc _ (VWp.keep [3,4,5,6] [] ?_); simp only [go_sem, Int.reduceEq, Int.reduceLT, Nat.reduceEqDiff, Nat.reduceAdd, Nat.reduceMul, Nat.reduceLT, Nat.reduceLeDiff, Int.reduceToNat]
  refine vwp_seq_k fun Nd hNd => vregd tt_ok mixed hF rfl (by kernel_rfl) (by kernel_rfl) ?_; simp only [x1, x2, x3, List.length_cons, List.length_nil, go_sem, Int.reduceEq, Int.reduceLT, Nat.reduceEqDiff, Nat.reduceAdd, Nat.reduceMul, Nat.reduceLT, Nat.reduceLeDiff, Int.reduceToNat]
  simp only [ca, cb, cc, go_sem, Int.reduceEq, Int.reduceLT, Nat.reduceEqDiff, Nat.reduceAdd, Nat.reduceMul, Nat.reduceLT, Nat.reduceLeDiff, Int.reduceToNat]
  repeat (refine ⟨by first | (refine ⟨?_, ?_, ?_⟩ <;> omega) | (simp only [List.length_cons, List.length_nil]; omega), ?_⟩)
  refine hNd _ (VWp.keep [2] [] ?_); simp only [go_sem, Int.reduceEq, Int.reduceLT, Nat.reduceEqDiff, Nat.reduceAdd, Nat.reduceMul, Nat.reduceLT, Nat.reduceLeDiff, Int.reduceToNat]
  refine vwp_ret ?_
  simp only [go_sem, Int.reduceEq, Int.reduceLT, Nat.reduceEqDiff, Nat.reduceAdd, Nat.reduceMul, Nat.reduceLT, Nat.reduceLeDiff, Int.reduceToNat]
  exact LeV.refl _
theorem rhex_int (n : Int) (h0 : 0 ≤ n) (hn : n < 4096) : Spec Tryz.prog 54 [.int .i64 n] (.str (hex3 n.toNat)) := by
  have := rhex_spec n.toNat (by omega)
  rw [Int.toNat_of_nonneg h0] at this
  exact this
theorem dec_short {n : Int} (h : n ≤ 1000000) : (decI n).length ≤ 7 := dec_len 7 n.toNat (by omega) (by omega)
set_option maxHeartbeats 8000000 in
set_option maxRecDepth 4000 in
theorem rLine_spec (u : UniT) (hu : unitT u = true) : Spec Tryz.prog 33 [.agg (uniC u)] (.str (lineW (unitW u))) := by
  have ha := unit_addr hu
  have hk := unit_kind hu
  have hhex := rhex_int u.addr ha.1 (by omega)
  have h3 : (hex3 u.addr.toNat).length = 3 := rfl
  obtain ⟨H, hH⟩ : ∃ H, hex3 u.addr.toNat = H := ⟨_, rfl⟩
  rw [hH] at hhex h3
  unfold uniC
  have hkk : u.kind = 1 ∨ u.kind = 2 ∨ u.kind = 3 ∨ u.kind = 4 ∨ u.kind = 5 := by omega
  rcases hkk with e | e | e | e | e
  · have hl : lineW (unitW u) = [85, 78, 73, 84, 32] ++ H ++ [32, 82, 69, 65, 68, 69, 82, 10] := by
      unfold unitW lineW; rw [hH, e]; simp [kndS, joinW, kUnit]
    rw [hl, e]
    refine spec_of tt_ok Tryz.func33 rfl (by decide) Tryz.ntmps33 (congrArg Array.toList Tryz.results33) (by simp) (by decide) rfl rfl (fun F hF => ?_)
    refine vwp_seq_k fun Na hNa => vreg tt_ok hF rfl ?_; simp only [go_sem, Int.reduceEq, Int.reduceLT, Nat.reduceEqDiff, Nat.reduceAdd, Nat.reduceMul, Nat.reduceLT, Nat.reduceLeDiff, Int.reduceToNat]
    refine hNa _ (VWp.keepR [1] [1] tt_ok hF rfl fun Nb hNb => ?_); simp only [go_sem, Int.reduceEq, Int.reduceLT, Nat.reduceEqDiff, Nat.reduceAdd, Nat.reduceMul, Nat.reduceLT, Nat.reduceLeDiff, Int.reduceToNat]
    refine .inl ⟨_, hhex, ?_⟩; try simp only [go_sem, Int.reduceEq, Int.reduceLT, Nat.reduceEqDiff, Nat.reduceAdd, Nat.reduceMul, Nat.reduceLT, Nat.reduceLeDiff, Int.reduceToNat]
    (repeat (refine ⟨by (try simp only [List.length_append, List.length_cons, List.length_nil]); omega, ?_⟩))
    refine hNb _ (VWp.keep [1,3] [1] ?_); simp only [go_sem, Int.reduceEq, Int.reduceLT, Nat.reduceEqDiff, Nat.reduceAdd, Nat.reduceMul, Nat.reduceLT, Nat.reduceLeDiff, Int.reduceToNat]
    refine vwp_seq_k fun Nc hNc => ?_
    refine vwp_seq_k fun Nd hNd => vreg tt_ok hF rfl ?_; simp only [go_sem, Int.reduceEq, Int.reduceLT, Nat.reduceEqDiff, Nat.reduceAdd, Nat.reduceMul, Nat.reduceLT, Nat.reduceLeDiff, Int.reduceToNat]
    refine hNd _ (VWp.keep [1,3,9] [1] ?_); simp only [go_sem, Int.reduceEq, Int.reduceLT, Nat.reduceEqDiff, Nat.reduceAdd, Nat.reduceMul, Nat.reduceLT, Nat.reduceLeDiff, Int.reduceToNat]
    refine vwp_block ?_
    refine vwp_seq_k fun Ne hNe => vreg tt_ok hF rfl ?_; simp only [go_sem, Int.reduceEq, Int.reduceLT, Nat.reduceEqDiff, Nat.reduceAdd, Nat.reduceMul, Nat.reduceLT, Nat.reduceLeDiff, Int.reduceToNat]
    refine hNe _ (VWp.keep [1,3,9,10] [1] ?_); simp only [go_sem, Int.reduceEq, Int.reduceLT, Nat.reduceEqDiff, Nat.reduceAdd, Nat.reduceMul, Nat.reduceLT, Nat.reduceLeDiff, Int.reduceToNat]
    refine vif rfl ⟨fun ht => ?_, (fun hf => by cases hf)⟩
    refine vwp_seq_k fun Nf hNf => vreg tt_ok hF rfl ?_; simp only [go_sem, Int.reduceEq, Int.reduceLT, Nat.reduceEqDiff, Nat.reduceAdd, Nat.reduceMul, Nat.reduceLT, Nat.reduceLeDiff, Int.reduceToNat]
    (repeat (refine ⟨by (try simp only [List.length_append, List.length_cons, List.length_nil]); omega, ?_⟩))
    refine hNf _ (VWp.keep [2] [] ?_); simp only [go_sem, Int.reduceEq, Int.reduceLT, Nat.reduceEqDiff, Nat.reduceAdd, Nat.reduceMul, Nat.reduceLT, Nat.reduceLeDiff, Int.reduceToNat]
    (refine vwp_ret ?_; simp only [go_sem, Int.reduceEq, Int.reduceLT, Nat.reduceEqDiff, Nat.reduceAdd, Nat.reduceMul, Nat.reduceLT, Nat.reduceLeDiff, Int.reduceToNat]; first | exact LeV.refl _ | exact LeV.of_eq (by simp))
  · have hl : lineW (unitW u) = [85, 78, 73, 84, 32] ++ H ++ [32, 80, 85, 78, 67, 72, 10] := by
      unfold unitW lineW; rw [hH, e]; simp [kndS, joinW, kUnit]
    rw [hl, e]
    refine spec_of tt_ok Tryz.func33 rfl (by decide) Tryz.ntmps33 (congrArg Array.toList Tryz.results33) (by simp) (by decide) rfl rfl (fun F hF => ?_)
    refine vwp_seq_k fun Na hNa => vreg tt_ok hF rfl ?_; simp only [go_sem, Int.reduceEq, Int.reduceLT, Nat.reduceEqDiff, Nat.reduceAdd, Nat.reduceMul, Nat.reduceLT, Nat.reduceLeDiff, Int.reduceToNat]
    refine hNa _ (VWp.keepR [1] [1] tt_ok hF rfl fun Nb hNb => ?_); simp only [go_sem, Int.reduceEq, Int.reduceLT, Nat.reduceEqDiff, Nat.reduceAdd, Nat.reduceMul, Nat.reduceLT, Nat.reduceLeDiff, Int.reduceToNat]
    refine .inl ⟨_, hhex, ?_⟩; try simp only [go_sem, Int.reduceEq, Int.reduceLT, Nat.reduceEqDiff, Nat.reduceAdd, Nat.reduceMul, Nat.reduceLT, Nat.reduceLeDiff, Int.reduceToNat]
    (repeat (refine ⟨by (try simp only [List.length_append, List.length_cons, List.length_nil]); omega, ?_⟩))
    refine hNb _ (VWp.keep [1,3] [1] ?_); simp only [go_sem, Int.reduceEq, Int.reduceLT, Nat.reduceEqDiff, Nat.reduceAdd, Nat.reduceMul, Nat.reduceLT, Nat.reduceLeDiff, Int.reduceToNat]
    refine vwp_seq_k fun Nc hNc => ?_
    refine vwp_seq_k fun Nd hNd => vreg tt_ok hF rfl ?_; simp only [go_sem, Int.reduceEq, Int.reduceLT, Nat.reduceEqDiff, Nat.reduceAdd, Nat.reduceMul, Nat.reduceLT, Nat.reduceLeDiff, Int.reduceToNat]
    refine hNd _ (VWp.keep [1,3,9] [1] ?_); simp only [go_sem, Int.reduceEq, Int.reduceLT, Nat.reduceEqDiff, Nat.reduceAdd, Nat.reduceMul, Nat.reduceLT, Nat.reduceLeDiff, Int.reduceToNat]
    refine vwp_block ?_
    refine vwp_seq_k fun Ne hNe => vreg tt_ok hF rfl ?_; simp only [go_sem, Int.reduceEq, Int.reduceLT, Nat.reduceEqDiff, Nat.reduceAdd, Nat.reduceMul, Nat.reduceLT, Nat.reduceLeDiff, Int.reduceToNat]
    refine hNe _ (VWp.keep [1,3,9,10] [1] ?_); simp only [go_sem, Int.reduceEq, Int.reduceLT, Nat.reduceEqDiff, Nat.reduceAdd, Nat.reduceMul, Nat.reduceLT, Nat.reduceLeDiff, Int.reduceToNat]
    refine vif rfl ⟨(fun hf => by cases hf), fun ht => ?_⟩
    refine vwp_seq_k fun Ng hNg => vreg tt_ok hF rfl ?_; simp only [go_sem, Int.reduceEq, Int.reduceLT, Nat.reduceEqDiff, Nat.reduceAdd, Nat.reduceMul, Nat.reduceLT, Nat.reduceLeDiff, Int.reduceToNat]
    refine hNg _ (VWp.keep [1,3,9,14] [1] ?_); simp only [go_sem, Int.reduceEq, Int.reduceLT, Nat.reduceEqDiff, Nat.reduceAdd, Nat.reduceMul, Nat.reduceLT, Nat.reduceLeDiff, Int.reduceToNat]
    refine vif rfl ⟨fun ht => ?_, (fun hf => by cases hf)⟩
    refine vwp_seq_k fun Nf hNf => vreg tt_ok hF rfl ?_; simp only [go_sem, Int.reduceEq, Int.reduceLT, Nat.reduceEqDiff, Nat.reduceAdd, Nat.reduceMul, Nat.reduceLT, Nat.reduceLeDiff, Int.reduceToNat]
    (repeat (refine ⟨by (try simp only [List.length_append, List.length_cons, List.length_nil]); omega, ?_⟩))
    refine hNf _ (VWp.keep [2] [] ?_); simp only [go_sem, Int.reduceEq, Int.reduceLT, Nat.reduceEqDiff, Nat.reduceAdd, Nat.reduceMul, Nat.reduceLT, Nat.reduceLeDiff, Int.reduceToNat]
    (refine vwp_ret ?_; simp only [go_sem, Int.reduceEq, Int.reduceLT, Nat.reduceEqDiff, Nat.reduceAdd, Nat.reduceMul, Nat.reduceLT, Nat.reduceLeDiff, Int.reduceToNat]; first | exact LeV.refl _ | exact LeV.of_eq (by simp))
  · have hl : lineW (unitW u) = [85, 78, 73, 84, 32] ++ H ++ [32, 80, 82, 73, 78, 84, 69, 82, 10] := by
      unfold unitW lineW; rw [hH, e]; simp [kndS, joinW, kUnit]
    rw [hl, e]
    refine spec_of tt_ok Tryz.func33 rfl (by decide) Tryz.ntmps33 (congrArg Array.toList Tryz.results33) (by simp) (by decide) rfl rfl (fun F hF => ?_)
    refine vwp_seq_k fun Na hNa => vreg tt_ok hF rfl ?_; simp only [go_sem, Int.reduceEq, Int.reduceLT, Nat.reduceEqDiff, Nat.reduceAdd, Nat.reduceMul, Nat.reduceLT, Nat.reduceLeDiff, Int.reduceToNat]
    refine hNa _ (VWp.keepR [1] [1] tt_ok hF rfl fun Nb hNb => ?_); simp only [go_sem, Int.reduceEq, Int.reduceLT, Nat.reduceEqDiff, Nat.reduceAdd, Nat.reduceMul, Nat.reduceLT, Nat.reduceLeDiff, Int.reduceToNat]
    refine .inl ⟨_, hhex, ?_⟩; try simp only [go_sem, Int.reduceEq, Int.reduceLT, Nat.reduceEqDiff, Nat.reduceAdd, Nat.reduceMul, Nat.reduceLT, Nat.reduceLeDiff, Int.reduceToNat]
    (repeat (refine ⟨by (try simp only [List.length_append, List.length_cons, List.length_nil]); omega, ?_⟩))
    refine hNb _ (VWp.keep [1,3] [1] ?_); simp only [go_sem, Int.reduceEq, Int.reduceLT, Nat.reduceEqDiff, Nat.reduceAdd, Nat.reduceMul, Nat.reduceLT, Nat.reduceLeDiff, Int.reduceToNat]
    refine vwp_seq_k fun Nc hNc => ?_
    refine vwp_seq_k fun Nd hNd => vreg tt_ok hF rfl ?_; simp only [go_sem, Int.reduceEq, Int.reduceLT, Nat.reduceEqDiff, Nat.reduceAdd, Nat.reduceMul, Nat.reduceLT, Nat.reduceLeDiff, Int.reduceToNat]
    refine hNd _ (VWp.keep [1,3,9] [1] ?_); simp only [go_sem, Int.reduceEq, Int.reduceLT, Nat.reduceEqDiff, Nat.reduceAdd, Nat.reduceMul, Nat.reduceLT, Nat.reduceLeDiff, Int.reduceToNat]
    refine vwp_block ?_
    refine vwp_seq_k fun Ne hNe => vreg tt_ok hF rfl ?_; simp only [go_sem, Int.reduceEq, Int.reduceLT, Nat.reduceEqDiff, Nat.reduceAdd, Nat.reduceMul, Nat.reduceLT, Nat.reduceLeDiff, Int.reduceToNat]
    refine hNe _ (VWp.keep [1,3,9,10] [1] ?_); simp only [go_sem, Int.reduceEq, Int.reduceLT, Nat.reduceEqDiff, Nat.reduceAdd, Nat.reduceMul, Nat.reduceLT, Nat.reduceLeDiff, Int.reduceToNat]
    refine vif rfl ⟨(fun hf => by cases hf), fun ht => ?_⟩
    refine vwp_seq_k fun Ng hNg => vreg tt_ok hF rfl ?_; simp only [go_sem, Int.reduceEq, Int.reduceLT, Nat.reduceEqDiff, Nat.reduceAdd, Nat.reduceMul, Nat.reduceLT, Nat.reduceLeDiff, Int.reduceToNat]
    refine hNg _ (VWp.keep [1,3,9,14] [1] ?_); simp only [go_sem, Int.reduceEq, Int.reduceLT, Nat.reduceEqDiff, Nat.reduceAdd, Nat.reduceMul, Nat.reduceLT, Nat.reduceLeDiff, Int.reduceToNat]
    refine vif rfl ⟨(fun hf => by cases hf), fun ht => ?_⟩
    refine vwp_seq_k fun Nh hNh => vreg tt_ok hF rfl ?_; simp only [go_sem, Int.reduceEq, Int.reduceLT, Nat.reduceEqDiff, Nat.reduceAdd, Nat.reduceMul, Nat.reduceLT, Nat.reduceLeDiff, Int.reduceToNat]
    refine hNh _ (VWp.keep [1,3,9,18] [1] ?_); simp only [go_sem, Int.reduceEq, Int.reduceLT, Nat.reduceEqDiff, Nat.reduceAdd, Nat.reduceMul, Nat.reduceLT, Nat.reduceLeDiff, Int.reduceToNat]
    refine vif rfl ⟨fun ht => ?_, (fun hf => by cases hf)⟩
    refine vwp_seq_k fun Nf hNf => vreg tt_ok hF rfl ?_; simp only [go_sem, Int.reduceEq, Int.reduceLT, Nat.reduceEqDiff, Nat.reduceAdd, Nat.reduceMul, Nat.reduceLT, Nat.reduceLeDiff, Int.reduceToNat]
    (repeat (refine ⟨by (try simp only [List.length_append, List.length_cons, List.length_nil]); omega, ?_⟩))
    refine hNf _ (VWp.keep [2] [] ?_); simp only [go_sem, Int.reduceEq, Int.reduceLT, Nat.reduceEqDiff, Nat.reduceAdd, Nat.reduceMul, Nat.reduceLT, Nat.reduceLeDiff, Int.reduceToNat]
    (refine vwp_ret ?_; simp only [go_sem, Int.reduceEq, Int.reduceLT, Nat.reduceEqDiff, Nat.reduceAdd, Nat.reduceMul, Nat.reduceLT, Nat.reduceLeDiff, Int.reduceToNat]; first | exact LeV.refl _ | exact LeV.of_eq (by simp))
  · have hser := plain_len (unit_tape hu e).1
    have hl : lineW (unitW u) = [85, 78, 73, 84, 32] ++ H ++ [32, 84, 65, 80, 69, 32] ++ u.ser ++ [10] := by
      unfold unitW lineW; rw [hH, e]; simp [kndS, joinW, kUnit]
    rw [hl, e]
    refine spec_of tt_ok Tryz.func33 rfl (by decide) Tryz.ntmps33 (congrArg Array.toList Tryz.results33) (by simp) (by decide) rfl rfl (fun F hF => ?_)
    refine vwp_seq_k fun Na hNa => vreg tt_ok hF rfl ?_; simp only [go_sem, Int.reduceEq, Int.reduceLT, Nat.reduceEqDiff, Nat.reduceAdd, Nat.reduceMul, Nat.reduceLT, Nat.reduceLeDiff, Int.reduceToNat]
    refine hNa _ (VWp.keepR [1] [1] tt_ok hF rfl fun Nb hNb => ?_); simp only [go_sem, Int.reduceEq, Int.reduceLT, Nat.reduceEqDiff, Nat.reduceAdd, Nat.reduceMul, Nat.reduceLT, Nat.reduceLeDiff, Int.reduceToNat]
    refine .inl ⟨_, hhex, ?_⟩; try simp only [go_sem, Int.reduceEq, Int.reduceLT, Nat.reduceEqDiff, Nat.reduceAdd, Nat.reduceMul, Nat.reduceLT, Nat.reduceLeDiff, Int.reduceToNat]
    (repeat (refine ⟨by (try simp only [List.length_append, List.length_cons, List.length_nil]); omega, ?_⟩))
    refine hNb _ (VWp.keep [1,3] [1] ?_); simp only [go_sem, Int.reduceEq, Int.reduceLT, Nat.reduceEqDiff, Nat.reduceAdd, Nat.reduceMul, Nat.reduceLT, Nat.reduceLeDiff, Int.reduceToNat]
    refine vwp_seq_k fun Nc hNc => ?_
    refine vwp_seq_k fun Nd hNd => vreg tt_ok hF rfl ?_; simp only [go_sem, Int.reduceEq, Int.reduceLT, Nat.reduceEqDiff, Nat.reduceAdd, Nat.reduceMul, Nat.reduceLT, Nat.reduceLeDiff, Int.reduceToNat]
    refine hNd _ (VWp.keep [1,3,9] [1] ?_); simp only [go_sem, Int.reduceEq, Int.reduceLT, Nat.reduceEqDiff, Nat.reduceAdd, Nat.reduceMul, Nat.reduceLT, Nat.reduceLeDiff, Int.reduceToNat]
    refine vwp_block ?_
    refine vwp_seq_k fun Ne hNe => vreg tt_ok hF rfl ?_; simp only [go_sem, Int.reduceEq, Int.reduceLT, Nat.reduceEqDiff, Nat.reduceAdd, Nat.reduceMul, Nat.reduceLT, Nat.reduceLeDiff, Int.reduceToNat]
    refine hNe _ (VWp.keep [1,3,9,10] [1] ?_); simp only [go_sem, Int.reduceEq, Int.reduceLT, Nat.reduceEqDiff, Nat.reduceAdd, Nat.reduceMul, Nat.reduceLT, Nat.reduceLeDiff, Int.reduceToNat]
    refine vif rfl ⟨(fun hf => by cases hf), fun ht => ?_⟩
    refine vwp_seq_k fun Ng hNg => vreg tt_ok hF rfl ?_; simp only [go_sem, Int.reduceEq, Int.reduceLT, Nat.reduceEqDiff, Nat.reduceAdd, Nat.reduceMul, Nat.reduceLT, Nat.reduceLeDiff, Int.reduceToNat]
    refine hNg _ (VWp.keep [1,3,9,14] [1] ?_); simp only [go_sem, Int.reduceEq, Int.reduceLT, Nat.reduceEqDiff, Nat.reduceAdd, Nat.reduceMul, Nat.reduceLT, Nat.reduceLeDiff, Int.reduceToNat]
    refine vif rfl ⟨(fun hf => by cases hf), fun ht => ?_⟩
    refine vwp_seq_k fun Nh hNh => vreg tt_ok hF rfl ?_; simp only [go_sem, Int.reduceEq, Int.reduceLT, Nat.reduceEqDiff, Nat.reduceAdd, Nat.reduceMul, Nat.reduceLT, Nat.reduceLeDiff, Int.reduceToNat]
    refine hNh _ (VWp.keep [1,3,9,18] [1] ?_); simp only [go_sem, Int.reduceEq, Int.reduceLT, Nat.reduceEqDiff, Nat.reduceAdd, Nat.reduceMul, Nat.reduceLT, Nat.reduceLeDiff, Int.reduceToNat]
    refine vif rfl ⟨(fun hf => by cases hf), fun ht => ?_⟩
    refine vwp_seq_k fun Ni hNi => vreg tt_ok hF rfl ?_; simp only [go_sem, Int.reduceEq, Int.reduceLT, Nat.reduceEqDiff, Nat.reduceAdd, Nat.reduceMul, Nat.reduceLT, Nat.reduceLeDiff, Int.reduceToNat]
    refine hNi _ (VWp.keep [1,3,22] [1] ?_); simp only [go_sem, Int.reduceEq, Int.reduceLT, Nat.reduceEqDiff, Nat.reduceAdd, Nat.reduceMul, Nat.reduceLT, Nat.reduceLeDiff, Int.reduceToNat]
    refine vif rfl ⟨fun ht => ?_, (fun hf => by cases hf)⟩
    refine vwp_seq_k fun Nf hNf => vreg tt_ok hF rfl ?_; simp only [go_sem, Int.reduceEq, Int.reduceLT, Nat.reduceEqDiff, Nat.reduceAdd, Nat.reduceMul, Nat.reduceLT, Nat.reduceLeDiff, Int.reduceToNat]
    (repeat (refine ⟨by (try simp only [List.length_append, List.length_cons, List.length_nil]); omega, ?_⟩))
    refine hNf _ (VWp.keep [2] [] ?_); simp only [go_sem, Int.reduceEq, Int.reduceLT, Nat.reduceEqDiff, Nat.reduceAdd, Nat.reduceMul, Nat.reduceLT, Nat.reduceLeDiff, Int.reduceToNat]
    (refine vwp_ret ?_; simp only [go_sem, Int.reduceEq, Int.reduceLT, Nat.reduceEqDiff, Nat.reduceAdd, Nat.reduceMul, Nat.reduceLT, Nat.reduceLeDiff, Int.reduceToNat]; first | exact LeV.refl _ | exact LeV.of_eq (by simp))
  · obtain ⟨d1, d2, d3, d4, d5⟩ := unit_disk hu e
    have hser := plain_len d1
    have k1 := dec_short (n := u.cyl) (by omega)
    have k2 := dec_short (n := u.head) (by omega)
    have n1 := rNum_int u.cyl (by omega) (by omega)
    have n2 := rNum_int u.head (by omega) (by omega)
    have hl : lineW (unitW u) = [85, 78, 73, 84, 32] ++ H ++ [32, 68, 73, 83, 75, 32] ++ u.ser ++ [32] ++ decI u.cyl ++ [32] ++ decI u.head ++ [10] := by
      unfold unitW lineW; rw [hH, e]; simp [kndS, joinW, kUnit]
    rw [hl, e]
    refine spec_of tt_ok Tryz.func33 rfl (by decide) Tryz.ntmps33 (congrArg Array.toList Tryz.results33) (by simp) (by decide) rfl rfl (fun F hF => ?_)
    refine vwp_seq_k fun Na hNa => vreg tt_ok hF rfl ?_; simp only [go_sem, Int.reduceEq, Int.reduceLT, Nat.reduceEqDiff, Nat.reduceAdd, Nat.reduceMul, Nat.reduceLT, Nat.reduceLeDiff, Int.reduceToNat]
    refine hNa _ (VWp.keepR [1] [1] tt_ok hF rfl fun Nb hNb => ?_); simp only [go_sem, Int.reduceEq, Int.reduceLT, Nat.reduceEqDiff, Nat.reduceAdd, Nat.reduceMul, Nat.reduceLT, Nat.reduceLeDiff, Int.reduceToNat]
    refine .inl ⟨_, hhex, ?_⟩; try simp only [go_sem, Int.reduceEq, Int.reduceLT, Nat.reduceEqDiff, Nat.reduceAdd, Nat.reduceMul, Nat.reduceLT, Nat.reduceLeDiff, Int.reduceToNat]
    (repeat (refine ⟨by (try simp only [List.length_append, List.length_cons, List.length_nil]); omega, ?_⟩))
    refine hNb _ (VWp.keep [1,3] [1] ?_); simp only [go_sem, Int.reduceEq, Int.reduceLT, Nat.reduceEqDiff, Nat.reduceAdd, Nat.reduceMul, Nat.reduceLT, Nat.reduceLeDiff, Int.reduceToNat]
    refine vwp_seq_k fun Nc hNc => ?_
    refine vwp_seq_k fun Nd hNd => vreg tt_ok hF rfl ?_; simp only [go_sem, Int.reduceEq, Int.reduceLT, Nat.reduceEqDiff, Nat.reduceAdd, Nat.reduceMul, Nat.reduceLT, Nat.reduceLeDiff, Int.reduceToNat]
    refine hNd _ (VWp.keep [1,3,9] [1] ?_); simp only [go_sem, Int.reduceEq, Int.reduceLT, Nat.reduceEqDiff, Nat.reduceAdd, Nat.reduceMul, Nat.reduceLT, Nat.reduceLeDiff, Int.reduceToNat]
    refine vwp_block ?_
    refine vwp_seq_k fun Ne hNe => vreg tt_ok hF rfl ?_; simp only [go_sem, Int.reduceEq, Int.reduceLT, Nat.reduceEqDiff, Nat.reduceAdd, Nat.reduceMul, Nat.reduceLT, Nat.reduceLeDiff, Int.reduceToNat]
    refine hNe _ (VWp.keep [1,3,9,10] [1] ?_); simp only [go_sem, Int.reduceEq, Int.reduceLT, Nat.reduceEqDiff, Nat.reduceAdd, Nat.reduceMul, Nat.reduceLT, Nat.reduceLeDiff, Int.reduceToNat]
    refine vif rfl ⟨(fun hf => by cases hf), fun ht => ?_⟩
    refine vwp_seq_k fun Ng hNg => vreg tt_ok hF rfl ?_; simp only [go_sem, Int.reduceEq, Int.reduceLT, Nat.reduceEqDiff, Nat.reduceAdd, Nat.reduceMul, Nat.reduceLT, Nat.reduceLeDiff, Int.reduceToNat]
    refine hNg _ (VWp.keep [1,3,9,14] [1] ?_); simp only [go_sem, Int.reduceEq, Int.reduceLT, Nat.reduceEqDiff, Nat.reduceAdd, Nat.reduceMul, Nat.reduceLT, Nat.reduceLeDiff, Int.reduceToNat]
    refine vif rfl ⟨(fun hf => by cases hf), fun ht => ?_⟩
    refine vwp_seq_k fun Nh hNh => vreg tt_ok hF rfl ?_; simp only [go_sem, Int.reduceEq, Int.reduceLT, Nat.reduceEqDiff, Nat.reduceAdd, Nat.reduceMul, Nat.reduceLT, Nat.reduceLeDiff, Int.reduceToNat]
    refine hNh _ (VWp.keep [1,3,9,18] [1] ?_); simp only [go_sem, Int.reduceEq, Int.reduceLT, Nat.reduceEqDiff, Nat.reduceAdd, Nat.reduceMul, Nat.reduceLT, Nat.reduceLeDiff, Int.reduceToNat]
    refine vif rfl ⟨(fun hf => by cases hf), fun ht => ?_⟩
    refine vwp_seq_k fun Ni hNi => vreg tt_ok hF rfl ?_; simp only [go_sem, Int.reduceEq, Int.reduceLT, Nat.reduceEqDiff, Nat.reduceAdd, Nat.reduceMul, Nat.reduceLT, Nat.reduceLeDiff, Int.reduceToNat]
    refine hNi _ (VWp.keep [1,3,22] [1] ?_); simp only [go_sem, Int.reduceEq, Int.reduceLT, Nat.reduceEqDiff, Nat.reduceAdd, Nat.reduceMul, Nat.reduceLT, Nat.reduceLeDiff, Int.reduceToNat]
    refine vif rfl ⟨(fun hf => by cases hf), fun ht => ?_⟩
    refine vwp_skip (hNc _ ?_)
    refine vwp_seq_k fun Nm hNm => vregd tt_ok mixed hF rfl (by kernel_rfl) (by kernel_rfl) ?_; simp only [go_sem, Int.reduceEq, Int.reduceLT, Nat.reduceEqDiff, Nat.reduceAdd, Nat.reduceMul, Nat.reduceLT, Nat.reduceLeDiff, Int.reduceToNat]
    (repeat (refine ⟨by (try simp only [List.length_append, List.length_cons, List.length_nil]); omega, ?_⟩))
    refine .inl ⟨_, n1, ?_⟩; try simp only [go_sem, Int.reduceEq, Int.reduceLT, Nat.reduceEqDiff, Nat.reduceAdd, Nat.reduceMul, Nat.reduceLT, Nat.reduceLeDiff, Int.reduceToNat]
    (repeat (refine ⟨by (try simp only [List.length_append, List.length_cons, List.length_nil]); omega, ?_⟩))
    refine .inl ⟨_, n2, ?_⟩; try simp only [go_sem, Int.reduceEq, Int.reduceLT, Nat.reduceEqDiff, Nat.reduceAdd, Nat.reduceMul, Nat.reduceLT, Nat.reduceLeDiff, Int.reduceToNat]
    (repeat (refine ⟨by (try simp only [List.length_append, List.length_cons, List.length_nil]); omega, ?_⟩))
    refine hNm _ (VWp.keep [2] [] ?_); simp only [go_sem, Int.reduceEq, Int.reduceLT, Nat.reduceEqDiff, Nat.reduceAdd, Nat.reduceMul, Nat.reduceLT, Nat.reduceLeDiff, Int.reduceToNat]
    (refine vwp_ret ?_; simp only [go_sem, Int.reduceEq, Int.reduceLT, Nat.reduceEqDiff, Nat.reduceAdd, Nat.reduceMul, Nat.reduceLT, Nat.reduceLeDiff, Int.reduceToNat]; first | exact LeV.refl _ | exact LeV.of_eq (by simp))
theorem part_len {c : CfgT} (hv : ValC c) : ∀ p ∈ c.ps, (lineW (partW p)).length ≤ 51 := fun p hp => by
  have := line_len hv (partW p) (by unfold linesC; exact List.mem_cons_of_mem _ (List.mem_append_left _ (List.mem_map.2 ⟨p, hp, rfl⟩)))
  unfold lineW; rw [List.length_append, List.length_cons, List.length_nil]; omega
theorem unit_len {c : CfgT} (hv : ValC c) : ∀ u ∈ c.us, (lineW (unitW u)).length ≤ 51 := fun u hu => by
  have := line_len hv (unitW u) (by unfold linesC; exact List.mem_cons_of_mem _ (List.mem_append_right _ (List.mem_map.2 ⟨u, hu, rfl⟩)))
  unfold lineW; rw [List.length_append, List.length_cons, List.length_nil]; omega
theorem store_len {c : CfgT} (hv : ValC c) : (lineW (storeW c.store)).length ≤ 51 := by
  have := line_len hv (storeW c.store) (by unfold linesC; exact List.mem_cons_self)
  unfold lineW; rw [List.length_append, List.length_cons, List.length_nil]; omega
set_option maxHeartbeats 8000000 in
set_option maxRecDepth 4000 in
theorem rPrint_spec (c : CfgT) (hv : ValC c) : Spec Tryz.prog 14 [.agg (cfgC c)] (.str (printT c)) := by
  have hst := size_bound hv.st
  have hnum := rNum_int c.store (by omega) (by omega)
  have hl0 : lineW (storeW c.store) = 83 :: 84 :: 79 :: 82 :: 69 :: 32 :: (decI c.store ++ [10]) := by unfold storeW lineW; simp [joinW, kStore]
  have hd0 := dec_short (n := c.store) (by omega)
  rw [print_parts]
  have hXl := store_len hv
  have hPl := part_len hv
  have hUl := unit_len hv
  obtain ⟨X, hX⟩ : ∃ X, lineW (storeW c.store) = X := ⟨_, rfl⟩
  rw [hX] at hl0 hXl ⊢
  unfold cfgC
  refine spec_of tt_ok Tryz.func14 rfl (by decide) Tryz.ntmps14 (congrArg Array.toList Tryz.results14) (by simp) (by decide) rfl rfl (fun F hF => ?_)
  refine vwp_seq_k fun Na hNa => vreg tt_ok hF rfl ?_; simp only [go_sem, Int.reduceEq, Int.reduceLT, Nat.reduceEqDiff, Nat.reduceAdd, Nat.reduceMul, Nat.reduceLT, Nat.reduceLeDiff, Int.reduceToNat]
  refine hNa _ (VWp.keepR [1] [1] tt_ok hF rfl fun Nb hNb => ?_); simp only [go_sem, Int.reduceEq, Int.reduceLT, Nat.reduceEqDiff, Nat.reduceAdd, Nat.reduceMul, Nat.reduceLT, Nat.reduceLeDiff, Int.reduceToNat]
  refine .inl ⟨_, hnum, ?_⟩; try simp only [go_sem, Int.reduceEq, Int.reduceLT, Nat.reduceEqDiff, Nat.reduceAdd, Nat.reduceMul, Nat.reduceLT, Nat.reduceLeDiff, Int.reduceToNat]
  (repeat (refine ⟨by (try simp only [List.length_append, List.length_cons, List.length_nil]); omega, ?_⟩))
  rw [← hl0]
  refine hNb _ (VWp.keep [1,3] [1] ?_); simp only [go_sem, Int.reduceEq, Int.reduceLT, Nat.reduceEqDiff, Nat.reduceAdd, Nat.reduceMul, Nat.reduceLT, Nat.reduceLeDiff, Int.reduceToNat]
  refine vwp_seq_k fun Nc hNc => ?_
  refine vwp_seq_k fun Nd hNd => vreg tt_ok hF rfl ?_; simp only [go_sem, Int.reduceEq, Int.reduceLT, Nat.reduceEqDiff, Nat.reduceAdd, Nat.reduceMul, Nat.reduceLT, Nat.reduceLeDiff, Int.reduceToNat]
  refine hNd _ (VWp.keep [1,3,4] [1] ?_); simp only [go_sem, Int.reduceEq, Int.reduceLT, Nat.reduceEqDiff, Nat.reduceAdd, Nat.reduceMul, Nat.reduceLT, Nat.reduceLeDiff, Int.reduceToNat]
  refine vwp_block ?_
  refine vloop (fun k : Nat => [(1, .ptr 1 0), (3, .str (X ++ ((c.ps.take k).map fun p => lineW (partW p)).flatten)), (4, .int .i64 (k : Int))]) (fun k => [(1, .box 39 [.sl 5 (c.us.map uniC), .int .i64 c.store, .sl 2 (c.ps.map parC)])]) (fun k => k ≤ c.ps.length) (fun k => c.ps.length - k) 0 (Nat.zero_le _) (by simp only [List.take_zero, List.map_nil, List.flatten_nil, List.append_nil, go_sem, Int.reduceEq, Int.reduceLT, Nat.reduceEqDiff, Nat.reduceAdd, Nat.reduceMul, Nat.reduceLT, Nat.reduceLeDiff, Int.reduceToNat]) ?_
  intro k hk
  have hp4 := hv.p4
  have hTl := take_bound (fun p => lineW (partW p)) 51 c.ps k hPl
  have hT4 : c.ps.length * 51 ≤ 4 * 51 := Nat.mul_le_mul_right _ hp4
  obtain ⟨T, hT⟩ : ∃ T, X ++ ((c.ps.take k).map fun p => lineW (partW p)).flatten = T := ⟨_, rfl⟩
  have hTb : T.length ≤ 1000 := by rw [← hT, List.length_append]; omega
  rw [hT]
  refine vwp_seq_k fun Ne hNe => ?_
  refine vwp_seq_k fun Nf hNf => vreg tt_ok hF rfl ?_; simp only [List.length_map, go_sem, Int.reduceEq, Int.reduceLT, Nat.reduceEqDiff, Nat.reduceAdd, Nat.reduceMul, Nat.reduceLT, Nat.reduceLeDiff, Int.reduceToNat]
  refine hNf _ (VWp.keep [1,3,4,15] [1] ?_); simp only [go_sem, Int.reduceEq, Int.reduceLT, Nat.reduceEqDiff, Nat.reduceAdd, Nat.reduceMul, Nat.reduceLT, Nat.reduceLeDiff, Int.reduceToNat]
  refine vif rfl ⟨fun ht => ?_, fun hf => ?_⟩
  · have hlt : k < c.ps.length := by have := of_decide_eq_true ht; omega
    have hget := par_row hlt
    have hpt := hv.p _ (List.getElem_mem hlt)
    have hsz : sizT c.ps[k].size = true := by unfold partT at hpt; simp only [Bool.and_eq_true] at hpt; exact hpt.1.1
    have hsb := size_bound hsz
    have hn1 := rNum_int c.ps[k].size (by omega) (by omega)
    have hsn := flat_snoc (fun p => lineW (partW p)) c.ps hlt
    have hl1 : lineW (partW c.ps[k]) = [80, 65, 82, 84, 32] ++ decI c.ps[k].size ++ [32] ++ c.ps[k].cls ++ [10] := by unfold partW lineW; simp [joinW, kPart]
    refine vwp_skip (hNe _ ?_)
    refine vwp_seq_k fun Ng hNg => ?_
    refine vwp_block ?_
    have hd1 := dec_short (n := c.ps[k].size) (by omega)
    have hpl1 : c.ps[k].cls.length ≤ 8 := by unfold partT at hpt; simp only [Bool.and_eq_true] at hpt; exact plain_len hpt.1.2
    refine vregd tt_ok mixed hF rfl (by kernel_rfl) (by kernel_rfl) ?_; simp only [go_sem, Int.reduceEq, Int.reduceLT, Nat.reduceEqDiff, Nat.reduceAdd, Nat.reduceMul, Nat.reduceLT, Nat.reduceLeDiff, Int.reduceToNat]
    (repeat (refine ⟨by (try simp only [List.length_append, List.length_cons, List.length_nil]); omega, ?_⟩))
    try simp only [hget, List.length_map, Int.toNat_natCast, go_sem, Int.reduceEq, Int.reduceLT, Nat.reduceEqDiff, Nat.reduceAdd, Nat.reduceMul, Nat.reduceLT, Nat.reduceLeDiff, Int.reduceToNat]
    (repeat (refine ⟨by (try simp only [List.length_append, List.length_cons, List.length_nil]); omega, ?_⟩))
    try simp only [hget, List.length_map, Int.toNat_natCast, go_sem, Int.reduceEq, Int.reduceLT, Nat.reduceEqDiff, Nat.reduceAdd, Nat.reduceMul, Nat.reduceLT, Nat.reduceLeDiff, Int.reduceToNat]
    refine .inl ⟨_, hn1, ?_⟩; try simp only [go_sem, Int.reduceEq, Int.reduceLT, Nat.reduceEqDiff, Nat.reduceAdd, Nat.reduceMul, Nat.reduceLT, Nat.reduceLeDiff, Int.reduceToNat]
    (repeat (refine ⟨by (try simp only [List.length_append, List.length_cons, List.length_nil]); omega, ?_⟩))
    try simp only [hget, List.length_map, Int.toNat_natCast, go_sem, Int.reduceEq, Int.reduceLT, Nat.reduceEqDiff, Nat.reduceAdd, Nat.reduceMul, Nat.reduceLT, Nat.reduceLeDiff, Int.reduceToNat]
    (repeat (refine ⟨by (try simp only [List.length_append, List.length_cons, List.length_nil]); omega, ?_⟩))
    try simp only [hget, List.length_map, Int.toNat_natCast, go_sem, Int.reduceEq, Int.reduceLT, Nat.reduceEqDiff, Nat.reduceAdd, Nat.reduceMul, Nat.reduceLT, Nat.reduceLeDiff, Int.reduceToNat]
    (repeat (refine ⟨by (try simp only [List.length_append, List.length_cons, List.length_nil]); omega, ?_⟩))
    refine hNg _ (VWp.keep [1,3,4] [1] ?_); simp only [go_sem, Int.reduceEq, Int.reduceLT, Nat.reduceEqDiff, Nat.reduceAdd, Nat.reduceMul, Nat.reduceLT, Nat.reduceLeDiff, Int.reduceToNat]
    refine vreg tt_ok hF rfl ?_; simp only [go_sem, Int.reduceEq, Int.reduceLT, Nat.reduceEqDiff, Nat.reduceAdd, Nat.reduceMul, Nat.reduceLT, Nat.reduceLeDiff, Int.reduceToNat]
    rw [wrap_i64 (by omega) (by omega)]
    exact ⟨k + 1, by omega, by omega, by rw [hsn, hl1, ← hT]; simp⟩
  · have hke : k = c.ps.length := by have := of_decide_eq_false hf; omega
    subst hke
    refine vwp_exit ?_
    simp only [List.take_length, go_sem, Int.reduceEq, Int.reduceLT, Nat.reduceEqDiff, Nat.reduceAdd, Nat.reduceMul, Nat.reduceLT, Nat.reduceLeDiff, Int.reduceToNat]
    refine hNc _ (VWp.keep [1,3] [1] ?_); simp only [go_sem, Int.reduceEq, Int.reduceLT, Nat.reduceEqDiff, Nat.reduceAdd, Nat.reduceMul, Nat.reduceLT, Nat.reduceLeDiff, Int.reduceToNat]
    refine vwp_seq_k fun Nh hNh => ?_
    refine vwp_seq_k fun Ni hNi => vreg tt_ok hF rfl ?_; simp only [go_sem, Int.reduceEq, Int.reduceLT, Nat.reduceEqDiff, Nat.reduceAdd, Nat.reduceMul, Nat.reduceLT, Nat.reduceLeDiff, Int.reduceToNat]
    refine hNi _ (VWp.keep [1,3,5] [1] ?_); simp only [go_sem, Int.reduceEq, Int.reduceLT, Nat.reduceEqDiff, Nat.reduceAdd, Nat.reduceMul, Nat.reduceLT, Nat.reduceLeDiff, Int.reduceToNat]
    refine vwp_block ?_
    rw [List.take_length] at hT
    rw [hT]
    obtain ⟨Y, hY⟩ : ∃ Y, T = Y := ⟨_, rfl⟩
    rw [hY] at hTb ⊢
    have hn16 := hv.n
    refine vloop (fun k : Nat => [(1, .ptr 1 0), (3, .str (Y ++ ((c.us.take k).map fun u => lineW (unitW u)).flatten)), (5, .int .i64 (k : Int))]) (fun k => [(1, .box 39 [.sl 5 (c.us.map uniC), .int .i64 c.store, .sl 2 (c.ps.map parC)])]) (fun k => k ≤ c.us.length) (fun k => c.us.length - k) 0 (Nat.zero_le _) (by simp only [List.take_zero, List.map_nil, List.flatten_nil, List.append_nil, go_sem, Int.reduceEq, Int.reduceLT, Nat.reduceEqDiff, Nat.reduceAdd, Nat.reduceMul, Nat.reduceLT, Nat.reduceLeDiff, Int.reduceToNat]) ?_
    intro k hk
    have hTl2 := take_bound (fun u => lineW (unitW u)) 51 c.us k hUl
    have hT42 : c.us.length * 51 ≤ 16 * 51 := Nat.mul_le_mul_right _ hn16
    obtain ⟨Z, hZ⟩ : ∃ Z, Y ++ ((c.us.take k).map fun u => lineW (unitW u)).flatten = Z := ⟨_, rfl⟩
    have hZb : Z.length ≤ 2000 := by rw [← hZ, List.length_append]; omega
    rw [hZ]
    refine vwp_seq_k fun Nj hNj => ?_
    refine vwp_seq_k fun Nk hNk => vreg tt_ok hF rfl ?_; simp only [List.length_map, go_sem, Int.reduceEq, Int.reduceLT, Nat.reduceEqDiff, Nat.reduceAdd, Nat.reduceMul, Nat.reduceLT, Nat.reduceLeDiff, Int.reduceToNat]
    refine hNk _ (VWp.keep [1,3,5,41] [1] ?_); simp only [go_sem, Int.reduceEq, Int.reduceLT, Nat.reduceEqDiff, Nat.reduceAdd, Nat.reduceMul, Nat.reduceLT, Nat.reduceLeDiff, Int.reduceToNat]
    refine vif rfl ⟨fun ht => ?_, fun hf => ?_⟩
    · have hlt : k < c.us.length := by have := of_decide_eq_true ht; omega
      have hget := uni_row hlt
      have hln : Spec Tryz.prog 33 [.agg [.int .i64 c.us[k].addr, .int .i64 c.us[k].kind, .str c.us[k].ser, .int .i64 c.us[k].cyl, .int .i64 c.us[k].head]] (.str (lineW (unitW c.us[k]))) := rLine_spec c.us[k] (hv.u _ (List.getElem_mem hlt))
      have hsn := flat_snoc (fun u => lineW (unitW u)) c.us hlt
      refine vwp_skip (hNj _ ?_)
      refine vwp_seq_k fun Nl hNl => ?_
      refine vwp_block ?_
      refine vreg tt_ok hF rfl ?_; simp only [hget, List.length_map, Int.toNat_natCast, go_sem, Int.reduceEq, Int.reduceLT, Nat.reduceEqDiff, Nat.reduceAdd, Nat.reduceMul, Nat.reduceLT, Nat.reduceLeDiff, Int.reduceToNat]
      (repeat (refine ⟨by (try simp only [List.length_append, List.length_cons, List.length_nil]); omega, ?_⟩))
      try simp only [hget, List.length_map, Int.toNat_natCast, go_sem, Int.reduceEq, Int.reduceLT, Nat.reduceEqDiff, Nat.reduceAdd, Nat.reduceMul, Nat.reduceLT, Nat.reduceLeDiff, Int.reduceToNat]
      have hlnl := hUl _ (List.getElem_mem hlt)
      refine .inl ⟨_, hln, ?_⟩; try simp only [go_sem, Int.reduceEq, Int.reduceLT, Nat.reduceEqDiff, Nat.reduceAdd, Nat.reduceMul, Nat.reduceLT, Nat.reduceLeDiff, Int.reduceToNat]
      (repeat (refine ⟨by (try simp only [List.length_append, List.length_cons, List.length_nil]); omega, ?_⟩))
      refine hNl _ (VWp.keep [1,3,5] [1] ?_); simp only [go_sem, Int.reduceEq, Int.reduceLT, Nat.reduceEqDiff, Nat.reduceAdd, Nat.reduceMul, Nat.reduceLT, Nat.reduceLeDiff, Int.reduceToNat]
      refine vreg tt_ok hF rfl ?_; simp only [go_sem, Int.reduceEq, Int.reduceLT, Nat.reduceEqDiff, Nat.reduceAdd, Nat.reduceMul, Nat.reduceLT, Nat.reduceLeDiff, Int.reduceToNat]
      rw [wrap_i64 (by omega) (by omega)]
      exact ⟨k + 1, by omega, by omega, by rw [hsn, ← hZ]; simp⟩
    · have hke : k = c.us.length := by have := of_decide_eq_false hf; omega
      subst hke
      rw [List.take_length] at hZ
      rw [hZ]
      refine vwp_exit ?_
      simp only [List.take_length, go_sem, Int.reduceEq, Int.reduceLT, Nat.reduceEqDiff, Nat.reduceAdd, Nat.reduceMul, Nat.reduceLT, Nat.reduceLeDiff, Int.reduceToNat]
      refine hNh _ (VWp.keepR [3] [] tt_ok hF rfl fun Nm hNm => ?_); simp only [go_sem, Int.reduceEq, Int.reduceLT, Nat.reduceEqDiff, Nat.reduceAdd, Nat.reduceMul, Nat.reduceLT, Nat.reduceLeDiff, Int.reduceToNat]
      refine hNm _ (VWp.keep [2] [] ?_); simp only [go_sem, Int.reduceEq, Int.reduceLT, Nat.reduceEqDiff, Nat.reduceAdd, Nat.reduceMul, Nat.reduceLT, Nat.reduceLeDiff, Int.reduceToNat]
      refine vwp_ret ?_
      simp only [go_sem, Int.reduceEq, Int.reduceLT, Nat.reduceEqDiff, Nat.reduceAdd, Nat.reduceMul, Nat.reduceLT, Nat.reduceLeDiff, Int.reduceToNat]
      exact LeV.of_eq (by rw [← hZ, ← hY, ← hT])
end Go.Proofs.YtedbbinlcdgkoaaGreatDoor

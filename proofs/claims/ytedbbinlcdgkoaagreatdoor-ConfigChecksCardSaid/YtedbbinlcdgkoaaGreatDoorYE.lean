import Derived.Outline
import Derived.Test.YtedbbinlcdgkoaaGreatDoorQS

/- Layer 19, the reference: sizes, serials, partitions, units, Check. -/
namespace Go.Proofs.YtedbbinlcdgkoaaGreatDoor
open Go.RowKit
-- FUSE
-- LESS
set_option linter.unusedVariables false
set_option linter.unusedSimpArgs false
set_option maxHeartbeats 4000000 in
set_option maxRecDepth 4000 in
theorem rsize_spec (n : Int) : Spec Tryz.prog 51 [.int .i64 n] (.bool (sizT n)) := by
  unfold sizT
  by_cases c1 : 2048 ≤ n
  · have e3 : n.tmod 2048 = n % 2048 := Int.tmod_eq_emod_of_nonneg (by omega)
    obtain ⟨b2, e2⟩ : ∃ b, decide (n ≤ 65536) = b := ⟨_, rfl⟩
    have e1 : decide ((2048 : Int) ≤ n) = true := decide_eq_true c1
    rw [e1, e2]
    cases b2
    all_goals
      refine spec_of tt_ok Tryz.func51 rfl (by decide) Tryz.ntmps51 (congrArg Array.toList Tryz.results51) (by simp) (by decide) rfl rfl (fun F hF => ?_)
      refine vwp_seq_k fun Na hNa => vreg tt_ok hF rfl ?_; simp only [go_sem, Int.reduceEq, Int.reduceLT, Nat.reduceEqDiff, Nat.reduceAdd, Nat.reduceMul, Nat.reduceLT, Nat.reduceLeDiff, Int.reduceToNat]
      refine hNa _ (VWp.keepR [0] [] tt_ok hF rfl fun Nb hNb => ?_); simp only [e1, e2, go_sem, Int.reduceEq, Int.reduceLT, Nat.reduceEqDiff, Nat.reduceAdd, Nat.reduceMul, Nat.reduceLT, Nat.reduceLeDiff, Int.reduceToNat]
      refine hNb _ (VWp.keep [2] [] ?_); simp only [go_sem, Int.reduceEq, Int.reduceLT, Nat.reduceEqDiff, Nat.reduceAdd, Nat.reduceMul, Nat.reduceLT, Nat.reduceLeDiff, Int.reduceToNat]
      refine vwp_ret ?_
      simp only [e3, go_sem, Int.reduceEq, Int.reduceLT, Nat.reduceEqDiff, Nat.reduceAdd, Nat.reduceMul, Nat.reduceLT, Nat.reduceLeDiff, Int.reduceToNat]
      first | exact LeV.refl _ | exact LeV.of_eq (by simp)
  · have e1 : decide ((2048 : Int) ≤ n) = false := decide_eq_false c1
    rw [e1]
    refine spec_of tt_ok Tryz.func51 rfl (by decide) Tryz.ntmps51 (congrArg Array.toList Tryz.results51) (by simp) (by decide) rfl rfl (fun F hF => ?_)
    refine vwp_seq_k fun Na hNa => vreg tt_ok hF rfl ?_; simp only [go_sem, Int.reduceEq, Int.reduceLT, Nat.reduceEqDiff, Nat.reduceAdd, Nat.reduceMul, Nat.reduceLT, Nat.reduceLeDiff, Int.reduceToNat]
    refine hNa _ (VWp.keepR [0] [] tt_ok hF rfl fun Nb hNb => ?_); simp only [e1, go_sem, Int.reduceEq, Int.reduceLT, Nat.reduceEqDiff, Nat.reduceAdd, Nat.reduceMul, Nat.reduceLT, Nat.reduceLeDiff, Int.reduceToNat]
    refine hNb _ (VWp.keep [2] [] ?_); simp only [go_sem, Int.reduceEq, Int.reduceLT, Nat.reduceEqDiff, Nat.reduceAdd, Nat.reduceMul, Nat.reduceLT, Nat.reduceLeDiff, Int.reduceToNat]
    refine vwp_ret ?_
    simp only [go_sem, Int.reduceEq, Int.reduceLT, Nat.reduceEqDiff, Nat.reduceAdd, Nat.reduceMul, Nat.reduceLT, Nat.reduceLeDiff, Int.reduceToNat]
    exact LeV.refl _
set_option maxHeartbeats 4000000 in
set_option maxRecDepth 4000 in
theorem rcap_spec (c : UInt8) : Spec Tryz.prog 75 [.int .u8 (c.toNat : Int)] (.bool (capC c)) := by
  unfold capC
  obtain ⟨b1, e1⟩ : ∃ b, decide (65 ≤ c.toNat) = b := ⟨_, rfl⟩
  obtain ⟨b2, e2⟩ : ∃ b, decide (c.toNat ≤ 90) = b := ⟨_, rfl⟩
  obtain ⟨b3, e3⟩ : ∃ b, decide (48 ≤ c.toNat) = b := ⟨_, rfl⟩
  obtain ⟨b4, e4⟩ : ∃ b, decide (c.toNat ≤ 57) = b := ⟨_, rfl⟩
  have f1 : decide ((65 : Int) ≤ (c.toNat : Int)) = b1 := by rw [← e1]; exact decide_eq_decide.2 (by omega)
  have f2 : decide ((c.toNat : Int) ≤ 90) = b2 := by rw [← e2]; exact decide_eq_decide.2 (by omega)
  have f3 : decide ((48 : Int) ≤ (c.toNat : Int)) = b3 := by rw [← e3]; exact decide_eq_decide.2 (by omega)
  have f4 : decide ((c.toNat : Int) ≤ 57) = b4 := by rw [← e4]; exact decide_eq_decide.2 (by omega)
  rw [e1, e2, e3, e4]
  clear e1 e2 e3 e4
  cases b1 <;> cases b2 <;> cases b3 <;> cases b4
  all_goals
    refine spec_of tt_ok Tryz.func75 rfl (by decide) Tryz.ntmps75 (congrArg Array.toList Tryz.results75) (by simp) (by decide) rfl rfl (fun F hF => ?_)
    refine vwp_seq_k fun Na hNa => vreg tt_ok hF rfl ?_; simp only [go_sem, Int.reduceEq, Int.reduceLT, Nat.reduceEqDiff, Nat.reduceAdd, Nat.reduceMul, Nat.reduceLT, Nat.reduceLeDiff, Int.reduceToNat]
    refine hNa _ (VWp.keepR [0] [] tt_ok hF rfl fun Nb hNb => ?_); simp only [f1, f2, f3, f4, go_sem, Int.reduceEq, Int.reduceLT, Nat.reduceEqDiff, Nat.reduceAdd, Nat.reduceMul, Nat.reduceLT, Nat.reduceLeDiff, Int.reduceToNat]
    refine hNb _ (VWp.keep [2] [] ?_); simp only [go_sem, Int.reduceEq, Int.reduceLT, Nat.reduceEqDiff, Nat.reduceAdd, Nat.reduceMul, Nat.reduceLT, Nat.reduceLeDiff, Int.reduceToNat]
    refine vwp_ret ?_
    simp only [go_sem, Int.reduceEq, Int.reduceLT, Nat.reduceEqDiff, Nat.reduceAdd, Nat.reduceMul, Nat.reduceLT, Nat.reduceLeDiff, Int.reduceToNat]
    first | exact LeV.refl _ | exact LeV.of_eq (by simp)
theorem take_all (p : UInt8 → Bool) (s : Bs) {k : Nat} (h : k < s.length) : (s.take (k + 1)).all p = ((s.take k).all p && p (s.getD k 0)) := by
  have e : s.getD k 0 = s[k] := by simp [List.getD_eq_getElem?_getD, List.getElem?_eq_getElem h]
  rw [e, List.take_succ_eq_append_getElem h, List.all_append]
  simp
theorem all_false (p : UInt8 → Bool) (s : Bs) {k : Nat} (h : k < s.length) (hp : p (s.getD k 0) = false) : s.all p = false := by
  have e : s.getD k 0 = s[k] := by simp [List.getD_eq_getElem?_getD, List.getElem?_eq_getElem h]
  rw [e] at hp
  rw [List.all_eq_false]
  exact ⟨s[k], List.getElem_mem h, by rw [hp]; decide⟩
set_option maxHeartbeats 4000000 in
set_option maxRecDepth 4000 in
theorem rserial_spec (s : Bs) (hs : s.length ≤ 1000000) : Spec Tryz.prog 76 [.str s] (.bool (plainT s 6)) := by
  refine spec_of tt_ok Tryz.func76 rfl (by decide) Tryz.ntmps76 (congrArg Array.toList Tryz.results76) (by simp) (by decide) rfl rfl (fun F hF => ?_)
  refine vwp_seq_k fun Na hNa => vreg tt_ok hF rfl ?_; simp only [go_sem, Int.reduceEq, Int.reduceLT, Nat.reduceEqDiff, Nat.reduceAdd, Nat.reduceMul, Nat.reduceLT, Nat.reduceLeDiff, Int.reduceToNat]
  refine hNa _ (VWp.keep [0] [] ?_); simp only [go_sem, Int.reduceEq, Int.reduceLT, Nat.reduceEqDiff, Nat.reduceAdd, Nat.reduceMul, Nat.reduceLT, Nat.reduceLeDiff, Int.reduceToNat]
  refine vwp_seq_k fun Nb hNb => ?_
  refine vwp_seq_k fun Nc hNc => vreg tt_ok hF rfl ?_; simp only [go_sem, Int.reduceEq, Int.reduceLT, Nat.reduceEqDiff, Nat.reduceAdd, Nat.reduceMul, Nat.reduceLT, Nat.reduceLeDiff, Int.reduceToNat]
  refine hNc _ (VWp.keep [0,3] [] ?_); simp only [go_sem, Int.reduceEq, Int.reduceLT, Nat.reduceEqDiff, Nat.reduceAdd, Nat.reduceMul, Nat.reduceLT, Nat.reduceLeDiff, Int.reduceToNat]
  refine vwp_block ?_
  refine vloop (fun k : Nat => [(0, .str s), (3, .int .i64 (k : Int))]) (fun k => []) (fun k => k ≤ s.length ∧ (s.take k).all capC = true) (fun k => s.length - k) 0 ⟨Nat.zero_le _, rfl⟩ (by simp only [go_sem, Int.reduceEq, Int.reduceLT, Nat.reduceEqDiff, Nat.reduceAdd, Nat.reduceMul, Nat.reduceLT, Nat.reduceLeDiff, Int.reduceToNat]) ?_
  rintro k ⟨hk, hall⟩
  refine vwp_seq_k fun Nd hNd => ?_
  refine vwp_seq_k fun Ne hNe => vreg tt_ok hF rfl ?_; simp only [go_sem, Int.reduceEq, Int.reduceLT, Nat.reduceEqDiff, Nat.reduceAdd, Nat.reduceMul, Nat.reduceLT, Nat.reduceLeDiff, Int.reduceToNat]
  refine hNe _ (VWp.keep [0,3,7] [] ?_); simp only [go_sem, Int.reduceEq, Int.reduceLT, Nat.reduceEqDiff, Nat.reduceAdd, Nat.reduceMul, Nat.reduceLT, Nat.reduceLeDiff, Int.reduceToNat]
  refine vif rfl ⟨fun ht => ?_, fun hf => ?_⟩
  · have hlt : k < s.length := by have := of_decide_eq_true ht; omega
    have hcap := rcap_spec (s.getD k 0)
    refine vwp_skip (hNd _ ?_)
    refine vwp_seq_k fun Nf hNf => ?_
    refine vwp_block ?_
    cases hc : capC (s.getD k 0)
    · rw [hc] at hcap
      refine vwp_seq_k fun Ng hNg => vreg tt_ok hF rfl ?_; simp only [go_sem, Int.reduceEq, Int.reduceLT, Nat.reduceEqDiff, Nat.reduceAdd, Nat.reduceMul, Nat.reduceLT, Nat.reduceLeDiff, Int.reduceToNat]
      refine ⟨by omega, ?_⟩
      refine .inl ⟨_, hcap, ?_⟩; try simp only [go_sem, Int.reduceEq, Int.reduceLT, Nat.reduceEqDiff, Nat.reduceAdd, Nat.reduceMul, Nat.reduceLT, Nat.reduceLeDiff, Int.reduceToNat]
      refine hNg _ (VWp.keep [0,3,14] [] ?_); simp only [go_sem, Int.reduceEq, Int.reduceLT, Nat.reduceEqDiff, Nat.reduceAdd, Nat.reduceMul, Nat.reduceLT, Nat.reduceLeDiff, Int.reduceToNat]
      refine vif rfl ⟨fun _ => ?_, (fun hf => by cases hf)⟩
      refine vwp_seq_k fun Nh hNh => vreg tt_ok hF rfl ?_; simp only [go_sem, Int.reduceEq, Int.reduceLT, Nat.reduceEqDiff, Nat.reduceAdd, Nat.reduceMul, Nat.reduceLT, Nat.reduceLeDiff, Int.reduceToNat]
      refine hNh _ (VWp.keep [2] [] ?_); simp only [go_sem, Int.reduceEq, Int.reduceLT, Nat.reduceEqDiff, Nat.reduceAdd, Nat.reduceMul, Nat.reduceLT, Nat.reduceLeDiff, Int.reduceToNat]
      refine vwp_ret ?_
      simp only [go_sem, Int.reduceEq, Int.reduceLT, Nat.reduceEqDiff, Nat.reduceAdd, Nat.reduceMul, Nat.reduceLT, Nat.reduceLeDiff, Int.reduceToNat]
      unfold plainT
      rw [all_false capC s hlt hc, Bool.and_false]
      exact LeV.refl _
    · rw [hc] at hcap
      refine vwp_seq_k fun Ng hNg => vreg tt_ok hF rfl ?_; simp only [go_sem, Int.reduceEq, Int.reduceLT, Nat.reduceEqDiff, Nat.reduceAdd, Nat.reduceMul, Nat.reduceLT, Nat.reduceLeDiff, Int.reduceToNat]
      refine ⟨by omega, ?_⟩
      refine .inl ⟨_, hcap, ?_⟩; try simp only [go_sem, Int.reduceEq, Int.reduceLT, Nat.reduceEqDiff, Nat.reduceAdd, Nat.reduceMul, Nat.reduceLT, Nat.reduceLeDiff, Int.reduceToNat]
      refine hNg _ (VWp.keep [0,3,14] [] ?_); simp only [go_sem, Int.reduceEq, Int.reduceLT, Nat.reduceEqDiff, Nat.reduceAdd, Nat.reduceMul, Nat.reduceLT, Nat.reduceLeDiff, Int.reduceToNat]
      refine vif rfl ⟨(fun hf => by cases hf), fun _ => ?_⟩
      refine vwp_skip (hNf _ ?_)
      refine vreg tt_ok hF rfl ?_; simp only [go_sem, Int.reduceEq, Int.reduceLT, Nat.reduceEqDiff, Nat.reduceAdd, Nat.reduceMul, Nat.reduceLT, Nat.reduceLeDiff, Int.reduceToNat]
      rw [wrap_i64 (by omega) (by omega)]
      exact ⟨k + 1, ⟨by omega, by rw [take_all capC s hlt, hall, hc]; rfl⟩, by omega, by simp⟩
  · have hke : k = s.length := by have := of_decide_eq_false hf; omega
    subst hke
    rw [List.take_length] at hall
    refine vwp_exit ?_
    simp only [go_sem, Int.reduceEq, Int.reduceLT, Nat.reduceEqDiff, Nat.reduceAdd, Nat.reduceMul, Nat.reduceLT, Nat.reduceLeDiff, Int.reduceToNat]
    refine hNb _ (VWp.keep [0] [] ?_); simp only [go_sem, Int.reduceEq, Int.reduceLT, Nat.reduceEqDiff, Nat.reduceAdd, Nat.reduceMul, Nat.reduceLT, Nat.reduceLeDiff, Int.reduceToNat]
    have hp : plainT s 6 = (decide ((1 : Int) ≤ (s.length : Int)) && decide ((s.length : Int) ≤ 6)) := by
      unfold plainT
      rw [hall, Bool.and_true]
      congr 1
      · cases s with
        | nil => rfl
        | cons x xs => rw [decide_eq_false (by simp), decide_eq_true (by simp only [List.length_cons]; omega)]; rfl
      · exact decide_eq_decide.2 (by omega)
    rw [hp]
    obtain ⟨b1, e1⟩ : ∃ b, decide ((1 : Int) ≤ (s.length : Int)) = b := ⟨_, rfl⟩
    obtain ⟨b2, e2⟩ : ∃ b, decide ((s.length : Int) ≤ 6) = b := ⟨_, rfl⟩
    rw [e1, e2]
    cases b1
    all_goals
      refine vwp_seq_k fun Ni hNi => vreg tt_ok hF rfl ?_; simp only [e1, e2, go_sem, Int.reduceEq, Int.reduceLT, Nat.reduceEqDiff, Nat.reduceAdd, Nat.reduceMul, Nat.reduceLT, Nat.reduceLeDiff, Int.reduceToNat]
      refine hNi _ (VWp.keep [2] [] ?_); simp only [go_sem, Int.reduceEq, Int.reduceLT, Nat.reduceEqDiff, Nat.reduceAdd, Nat.reduceMul, Nat.reduceLT, Nat.reduceLeDiff, Int.reduceToNat]
      refine vwp_ret ?_
      simp only [go_sem, Int.reduceEq, Int.reduceLT, Nat.reduceEqDiff, Nat.reduceAdd, Nat.reduceMul, Nat.reduceLT, Nat.reduceLeDiff, Int.reduceToNat]
      first | exact LeV.refl _ | exact LeV.of_eq (by simp)
theorem idx_self (s : Bs) {i : Nat} (h : i < s.length) : ∃ k : Nat, Lib.indexByte s (s.getD i 0) = (k : Int) ∧ k ≤ i ∧ s.getD k 0 = s.getD i 0 ∧ (∀ j, j < k → s.getD j 0 ≠ s.getD i 0) := by
  have e : s.getD i 0 = s[i] := by simp [List.getD_eq_getElem?_getD, List.getElem?_eq_getElem h]
  rcases byteIdx_cases (s.getD i 0) s with ⟨_, q⟩ | ⟨k, h1, h2, h3, h4⟩
  · exact absurd e.symm (q s[i] (List.getElem_mem h))
  · have hj : ∀ j, j < k → s.getD j 0 ≠ s.getD i 0 := fun j hj => by
      have : s.getD j 0 = (s.take k).getD j 0 := by
        simp [List.getD_eq_getElem?_getD, List.getElem?_take, hj]
      rw [this]
      refine h4 _ ?_
      have hl : j < (s.take k).length := by rw [List.length_take]; omega
      rw [List.getD_eq_getElem?_getD, List.getElem?_eq_getElem hl, Option.getD_some]
      exact List.getElem_mem hl
    have hk : s.getD k 0 = s.getD i 0 := by
      obtain ⟨c, hc⟩ : ∃ c, s.getD i 0 = c := ⟨_, rfl⟩
      rw [hc] at h3 ⊢
      have hl : (s.take k).length = k := by rw [List.length_take]; omega
      rw [h3, List.getD_eq_getElem?_getD, List.getElem?_append_right (by omega), hl, Nat.sub_self]
      rfl
    refine ⟨k, h1, ?_, hk, hj⟩
    rcases Nat.lt_or_ge i k with q | q
    · exact absurd rfl (hj i q)
    · exact q
theorem uniq_of {s : Bs} (h : ∀ j, j < s.length → ∀ i, i < j → s.getD i 0 ≠ s.getD j 0) : uniqT s = true := by
  unfold uniqT
  rw [List.all_eq_true]
  intro i hi
  have hi := List.mem_range.1 hi
  obtain ⟨k, h1, h2, h3, h4⟩ := idx_self s hi
  rw [h1]
  rcases Nat.eq_or_lt_of_le h2 with q | q
  · rw [q]; exact decide_eq_true rfl
  · exact absurd h3 (h i hi k q)
theorem uniq_not {s : Bs} {i j : Nat} (hj : j < s.length) (hi : i < j) (h : s.getD i 0 = s.getD j 0) : uniqT s = false := by
  unfold uniqT
  rw [List.all_eq_false]
  refine ⟨j, List.mem_range.2 hj, ?_⟩
  obtain ⟨k, h1, h2, h3, h4⟩ := idx_self s hj
  rw [h1]
  have : k ≠ j := fun q => by subst q; exact h4 i hi h
  rw [decide_eq_false (by omega)]; decide
set_option maxHeartbeats 16000000 in
set_option maxRecDepth 4000 in
theorem rPart_spec (p : ParT) : Spec Tryz.prog 52 [.agg (parC p)] (.bool (partT p)) := by
  have hsz := rsize_spec p.size
  unfold parC
  obtain ⟨n, s⟩ := p
  simp only at hsz ⊢
  unfold partT plainT
  simp only
  obtain ⟨b0, e0⟩ : ∃ b, sizT n = b := ⟨_, rfl⟩
  rw [e0] at hsz ⊢
  have hne : (!decide (s = [])) = !decide ((s.length : Int) < 1) := by
    cases s with
    | nil => rfl
    | cons x xs => rw [decide_eq_false (by simp), decide_eq_false (by simp only [List.length_cons]; omega)]
  have h8 : decide (s.length ≤ 8) = !decide ((8 : Int) < (s.length : Int)) := by
    rcases Nat.lt_or_ge 8 s.length with q | q
    · rw [decide_eq_false (by omega), decide_eq_true (by omega)]; rfl
    · rw [decide_eq_true q, decide_eq_false (by omega)]; rfl
  rw [hne, h8]
  obtain ⟨b1, e1⟩ : ∃ b, decide ((s.length : Int) < 1) = b := ⟨_, rfl⟩
  obtain ⟨b2, e2⟩ : ∃ b, decide ((8 : Int) < (s.length : Int)) = b := ⟨_, rfl⟩
  rw [e1, e2]
  by_cases hgo : b0 = true ∧ b1 = false ∧ b2 = false
  · obtain ⟨rfl, rfl, rfl⟩ := hgo
    have hlen : s.length ≤ 8 := by have := of_decide_eq_false e2; omega
    refine spec_of tt_ok Tryz.func52 rfl (by decide) Tryz.ntmps52 (congrArg Array.toList Tryz.results52) (by simp) (by decide) rfl rfl (fun F hF => ?_)
    refine vwp_seq_k fun Na hNa => vreg tt_ok hF rfl ?_; simp only [go_sem, Int.reduceEq, Int.reduceLT, Nat.reduceEqDiff, Nat.reduceAdd, Nat.reduceMul, Nat.reduceLT, Nat.reduceLeDiff, Int.reduceToNat]
    refine hNa _ (VWp.keep [1] [1] ?_); simp only [go_sem, Int.reduceEq, Int.reduceLT, Nat.reduceEqDiff, Nat.reduceAdd, Nat.reduceMul, Nat.reduceLT, Nat.reduceLeDiff, Int.reduceToNat]
    refine vwp_seq_k fun Nb hNb => ?_
    refine vwp_seq_k fun Nc hNc => vreg tt_ok hF rfl ?_; simp only [go_sem, Int.reduceEq, Int.reduceLT, Nat.reduceEqDiff, Nat.reduceAdd, Nat.reduceMul, Nat.reduceLT, Nat.reduceLeDiff, Int.reduceToNat]
    refine .inl ⟨_, hsz, ?_⟩; try simp only [go_sem, Int.reduceEq, Int.reduceLT, Nat.reduceEqDiff, Nat.reduceAdd, Nat.reduceMul, Nat.reduceLT, Nat.reduceLeDiff, Int.reduceToNat]
    try simp only [e1, e2, go_sem, Int.reduceEq, Int.reduceLT, Nat.reduceEqDiff, Nat.reduceAdd, Nat.reduceMul, Nat.reduceLT, Nat.reduceLeDiff, Int.reduceToNat]
    refine hNc _ (VWp.keep [1,20] [1] ?_); simp only [go_sem, Int.reduceEq, Int.reduceLT, Nat.reduceEqDiff, Nat.reduceAdd, Nat.reduceMul, Nat.reduceLT, Nat.reduceLeDiff, Int.reduceToNat]
    refine vif rfl ⟨(fun hf => by first | cases hf | (rw [e2] at hf; cases hf)), fun _ => ?_⟩
    refine vwp_skip (hNb _ ?_)
    refine vwp_seq_k fun Ne hNe => ?_
    refine vwp_seq_k fun Nf hNf => vreg tt_ok hF rfl ?_; simp only [go_sem, Int.reduceEq, Int.reduceLT, Nat.reduceEqDiff, Nat.reduceAdd, Nat.reduceMul, Nat.reduceLT, Nat.reduceLeDiff, Int.reduceToNat]
    refine hNf _ (VWp.keep [1,3] [1] ?_); simp only [go_sem, Int.reduceEq, Int.reduceLT, Nat.reduceEqDiff, Nat.reduceAdd, Nat.reduceMul, Nat.reduceLT, Nat.reduceLeDiff, Int.reduceToNat]
    refine vwp_block ?_
    refine vloop (fun k : Nat => [(1, .ptr 1 0), (3, .int .i64 (k : Int))]) (fun k => [(1, .box 72 [.int .i64 n, .str s])]) (fun k => k ≤ s.length ∧ (s.take k).all capC = true ∧ ∀ j, j < k → ∀ i, i < j → s.getD i 0 ≠ s.getD j 0) (fun k => s.length - k) 0 ⟨Nat.zero_le _, rfl, fun j hj => by omega⟩ (by simp only [go_sem, Int.reduceEq, Int.reduceLT, Nat.reduceEqDiff, Nat.reduceAdd, Nat.reduceMul, Nat.reduceLT, Nat.reduceLeDiff, Int.reduceToNat]) ?_
    rintro k ⟨hk, hall, hdup⟩
    refine vwp_seq_k fun Ng hNg => ?_
    refine vwp_seq_k fun Nh hNh => vreg tt_ok hF rfl ?_; simp only [go_sem, Int.reduceEq, Int.reduceLT, Nat.reduceEqDiff, Nat.reduceAdd, Nat.reduceMul, Nat.reduceLT, Nat.reduceLeDiff, Int.reduceToNat]
    refine hNh _ (VWp.keep [1,3,25] [1] ?_); simp only [go_sem, Int.reduceEq, Int.reduceLT, Nat.reduceEqDiff, Nat.reduceAdd, Nat.reduceMul, Nat.reduceLT, Nat.reduceLeDiff, Int.reduceToNat]
    refine vif rfl ⟨fun ht => ?_, fun hf => ?_⟩
    · have hlt : k < s.length := by have := of_decide_eq_true ht; omega
      have hcap := rcap_spec (s.getD k 0)
      refine vwp_skip (hNg _ ?_)
      refine vwp_seq_k fun Ni hNi => ?_
      refine vwp_block ?_
      refine vwp_seq_k fun Nj hNj => ?_
      cases hc : capC (s.getD k 0)
      · rw [hc] at hcap
        refine vwp_seq_k fun Nk hNk => vreg tt_ok hF rfl ?_; simp only [go_sem, Int.reduceEq, Int.reduceLT, Nat.reduceEqDiff, Nat.reduceAdd, Nat.reduceMul, Nat.reduceLT, Nat.reduceLeDiff, Int.reduceToNat]
        refine ⟨by omega, ?_⟩
        refine .inl ⟨_, hcap, ?_⟩; try simp only [go_sem, Int.reduceEq, Int.reduceLT, Nat.reduceEqDiff, Nat.reduceAdd, Nat.reduceMul, Nat.reduceLT, Nat.reduceLeDiff, Int.reduceToNat]
        refine hNk _ (VWp.keep [1,3,33] [1] ?_); simp only [go_sem, Int.reduceEq, Int.reduceLT, Nat.reduceEqDiff, Nat.reduceAdd, Nat.reduceMul, Nat.reduceLT, Nat.reduceLeDiff, Int.reduceToNat]
        refine vif rfl ⟨fun _ => ?_, (fun hf => by cases hf)⟩
        refine vwp_seq_k fun Nl hNl => vreg tt_ok hF rfl ?_; simp only [go_sem, Int.reduceEq, Int.reduceLT, Nat.reduceEqDiff, Nat.reduceAdd, Nat.reduceMul, Nat.reduceLT, Nat.reduceLeDiff, Int.reduceToNat]
        refine hNl _ (VWp.keep [2] [] ?_); simp only [go_sem, Int.reduceEq, Int.reduceLT, Nat.reduceEqDiff, Nat.reduceAdd, Nat.reduceMul, Nat.reduceLT, Nat.reduceLeDiff, Int.reduceToNat]
        refine vwp_ret ?_
        simp only [go_sem, Int.reduceEq, Int.reduceLT, Nat.reduceEqDiff, Nat.reduceAdd, Nat.reduceMul, Nat.reduceLT, Nat.reduceLeDiff, Int.reduceToNat]
        rw [all_false capC s hlt hc]
        exact LeV.refl _
      · rw [hc] at hcap
        refine vwp_seq_k fun Nk hNk => vreg tt_ok hF rfl ?_; simp only [go_sem, Int.reduceEq, Int.reduceLT, Nat.reduceEqDiff, Nat.reduceAdd, Nat.reduceMul, Nat.reduceLT, Nat.reduceLeDiff, Int.reduceToNat]
        refine ⟨by omega, ?_⟩
        refine .inl ⟨_, hcap, ?_⟩; try simp only [go_sem, Int.reduceEq, Int.reduceLT, Nat.reduceEqDiff, Nat.reduceAdd, Nat.reduceMul, Nat.reduceLT, Nat.reduceLeDiff, Int.reduceToNat]
        refine hNk _ (VWp.keep [1,3,33] [1] ?_); simp only [go_sem, Int.reduceEq, Int.reduceLT, Nat.reduceEqDiff, Nat.reduceAdd, Nat.reduceMul, Nat.reduceLT, Nat.reduceLeDiff, Int.reduceToNat]
        refine vif rfl ⟨(fun hf => by cases hf), fun _ => ?_⟩
        refine vwp_skip (hNj _ ?_)
        refine vwp_seq_k fun Nm hNm => vreg tt_ok hF rfl ?_; simp only [go_sem, Int.reduceEq, Int.reduceLT, Nat.reduceEqDiff, Nat.reduceAdd, Nat.reduceMul, Nat.reduceLT, Nat.reduceLeDiff, Int.reduceToNat]
        refine hNm _ (VWp.keep [1,3,4] [1] ?_); simp only [go_sem, Int.reduceEq, Int.reduceLT, Nat.reduceEqDiff, Nat.reduceAdd, Nat.reduceMul, Nat.reduceLT, Nat.reduceLeDiff, Int.reduceToNat]
        refine vwp_block ?_
        refine vloop (fun q : Nat => [(1, .ptr 1 0), (3, .int .i64 (k : Int)), (4, .int .i64 (q : Int))]) (fun q => [(1, .box 72 [.int .i64 n, .str s])]) (fun q => q ≤ k ∧ ∀ i, i < q → s.getD i 0 ≠ s.getD k 0) (fun q => k - q) 0 ⟨Nat.zero_le _, fun i hi => by omega⟩ (by simp only [go_sem, Int.reduceEq, Int.reduceLT, Nat.reduceEqDiff, Nat.reduceAdd, Nat.reduceMul, Nat.reduceLT, Nat.reduceLeDiff, Int.reduceToNat]) ?_
        rintro q ⟨hq, hne2⟩
        refine vwp_seq_k fun Nn hNn => ?_
        refine vwp_seq_k fun No hNo => vreg tt_ok hF rfl ?_; simp only [go_sem, Int.reduceEq, Int.reduceLT, Nat.reduceEqDiff, Nat.reduceAdd, Nat.reduceMul, Nat.reduceLT, Nat.reduceLeDiff, Int.reduceToNat]
        refine hNo _ (VWp.keep [1,3,4,36] [1] ?_); simp only [go_sem, Int.reduceEq, Int.reduceLT, Nat.reduceEqDiff, Nat.reduceAdd, Nat.reduceMul, Nat.reduceLT, Nat.reduceLeDiff, Int.reduceToNat]
        refine vif rfl ⟨fun ht => ?_, fun hf => ?_⟩
        · have hlt2 : q < k := by have := of_decide_eq_true ht; omega
          refine vwp_skip (hNn _ ?_)
          refine vwp_seq_k fun Np hNp => ?_
          refine vwp_block ?_
          by_cases heq : s.getD q 0 = s.getD k 0
          · have ee : decide (((s.getD q 0).toNat : Int) = ((s.getD k 0).toNat : Int)) = true := decide_eq_true (by rw [heq])
            refine vwp_seq_k fun Nq hNq => vregd tt_ok mixed hF rfl (by kernel_rfl) (by kernel_rfl) ?_; simp only [go_sem, Int.reduceEq, Int.reduceLT, Nat.reduceEqDiff, Nat.reduceAdd, Nat.reduceMul, Nat.reduceLT, Nat.reduceLeDiff, Int.reduceToNat]
            refine ⟨by omega, by omega, ?_⟩
            try simp only [ee, go_sem, Int.reduceEq, Int.reduceLT, Nat.reduceEqDiff, Nat.reduceAdd, Nat.reduceMul, Nat.reduceLT, Nat.reduceLeDiff, Int.reduceToNat]
            refine hNq _ (VWp.keep [1,3,4,47] [1] ?_); simp only [go_sem, Int.reduceEq, Int.reduceLT, Nat.reduceEqDiff, Nat.reduceAdd, Nat.reduceMul, Nat.reduceLT, Nat.reduceLeDiff, Int.reduceToNat]
            refine vif rfl ⟨fun _ => ?_, (fun hf => by first | cases hf | (rw [ee] at hf; cases hf))⟩
            refine vwp_seq_k fun Nr hNr => vreg tt_ok hF rfl ?_; simp only [go_sem, Int.reduceEq, Int.reduceLT, Nat.reduceEqDiff, Nat.reduceAdd, Nat.reduceMul, Nat.reduceLT, Nat.reduceLeDiff, Int.reduceToNat]
            refine hNr _ (VWp.keep [2] [] ?_); simp only [go_sem, Int.reduceEq, Int.reduceLT, Nat.reduceEqDiff, Nat.reduceAdd, Nat.reduceMul, Nat.reduceLT, Nat.reduceLeDiff, Int.reduceToNat]
            refine vwp_ret ?_
            simp only [go_sem, Int.reduceEq, Int.reduceLT, Nat.reduceEqDiff, Nat.reduceAdd, Nat.reduceMul, Nat.reduceLT, Nat.reduceLeDiff, Int.reduceToNat]
            rw [uniq_not hlt hlt2 heq, Bool.and_false]
            exact LeV.refl _
          · have ee : decide (((s.getD q 0).toNat : Int) = ((s.getD k 0).toNat : Int)) = false := decide_eq_false (fun z => heq (UInt8.toNat_inj.1 (by omega)))
            refine vwp_seq_k fun Nq hNq => vregd tt_ok mixed hF rfl (by kernel_rfl) (by kernel_rfl) ?_; simp only [go_sem, Int.reduceEq, Int.reduceLT, Nat.reduceEqDiff, Nat.reduceAdd, Nat.reduceMul, Nat.reduceLT, Nat.reduceLeDiff, Int.reduceToNat]
            refine ⟨by omega, by omega, ?_⟩
            try simp only [ee, go_sem, Int.reduceEq, Int.reduceLT, Nat.reduceEqDiff, Nat.reduceAdd, Nat.reduceMul, Nat.reduceLT, Nat.reduceLeDiff, Int.reduceToNat]
            refine hNq _ (VWp.keep [1,3,4,47] [1] ?_); simp only [go_sem, Int.reduceEq, Int.reduceLT, Nat.reduceEqDiff, Nat.reduceAdd, Nat.reduceMul, Nat.reduceLT, Nat.reduceLeDiff, Int.reduceToNat]
            refine vif rfl ⟨(fun hf => by first | cases hf | (rw [ee] at hf; cases hf)), fun _ => ?_⟩
            refine vwp_skip (hNp _ ?_)
            refine vreg tt_ok hF rfl ?_; simp only [go_sem, Int.reduceEq, Int.reduceLT, Nat.reduceEqDiff, Nat.reduceAdd, Nat.reduceMul, Nat.reduceLT, Nat.reduceLeDiff, Int.reduceToNat]
            rw [wrap_i64 (by omega) (by omega)]
            refine ⟨q + 1, ⟨by omega, fun i hi => ?_⟩, by omega, by simp⟩
            rcases Nat.eq_or_lt_of_le (Nat.le_of_lt_succ hi) with z | z
            · subst z; exact heq
            · exact hne2 i z
        · have hqe : q = k := by have := of_decide_eq_false hf; omega
          subst hqe
          refine vwp_exit ?_
          simp only [go_sem, Int.reduceEq, Int.reduceLT, Nat.reduceEqDiff, Nat.reduceAdd, Nat.reduceMul, Nat.reduceLT, Nat.reduceLeDiff, Int.reduceToNat]
          refine hNi _ (VWp.keep [1,3] [1] ?_); simp only [go_sem, Int.reduceEq, Int.reduceLT, Nat.reduceEqDiff, Nat.reduceAdd, Nat.reduceMul, Nat.reduceLT, Nat.reduceLeDiff, Int.reduceToNat]
          refine vreg tt_ok hF rfl ?_; simp only [go_sem, Int.reduceEq, Int.reduceLT, Nat.reduceEqDiff, Nat.reduceAdd, Nat.reduceMul, Nat.reduceLT, Nat.reduceLeDiff, Int.reduceToNat]
          rw [wrap_i64 (by omega) (by omega)]
          refine ⟨q + 1, ⟨by omega, by rw [take_all capC s hlt, hall, hc]; rfl, fun j hj => ?_⟩, by omega, by simp⟩
          rcases Nat.eq_or_lt_of_le (Nat.le_of_lt_succ hj) with z | z
          · subst z; exact hne2
          · exact hdup j z
    · have hke : k = s.length := by have := of_decide_eq_false hf; omega
      subst hke
      rw [List.take_length] at hall
      refine vwp_exit ?_
      simp only [go_sem, Int.reduceEq, Int.reduceLT, Nat.reduceEqDiff, Nat.reduceAdd, Nat.reduceMul, Nat.reduceLT, Nat.reduceLeDiff, Int.reduceToNat]
      refine hNe _ (VWp.keepR [] [] tt_ok hF rfl fun Ns hNs => ?_); simp only [go_sem, Int.reduceEq, Int.reduceLT, Nat.reduceEqDiff, Nat.reduceAdd, Nat.reduceMul, Nat.reduceLT, Nat.reduceLeDiff, Int.reduceToNat]
      refine hNs _ (VWp.keep [2] [] ?_); simp only [go_sem, Int.reduceEq, Int.reduceLT, Nat.reduceEqDiff, Nat.reduceAdd, Nat.reduceMul, Nat.reduceLT, Nat.reduceLeDiff, Int.reduceToNat]
      refine vwp_ret ?_
      simp only [go_sem, Int.reduceEq, Int.reduceLT, Nat.reduceEqDiff, Nat.reduceAdd, Nat.reduceMul, Nat.reduceLT, Nat.reduceLeDiff, Int.reduceToNat]
      rw [hall, uniq_of hdup]
      exact LeV.refl _
  · have hres : (b0 && (!b1 && !b2 && s.all capC) && uniqT s) = false := by
      cases b0 <;> cases b1 <;> cases b2 <;> simp at hgo ⊢
    rw [hres]
    cases b0 <;> cases b1 <;> cases b2
    all_goals first
      | exact absurd ⟨rfl, rfl, rfl⟩ hgo
      | (refine spec_of tt_ok Tryz.func52 rfl (by decide) Tryz.ntmps52 (congrArg Array.toList Tryz.results52) (by simp) (by decide) rfl rfl (fun F hF => ?_)
         refine vwp_seq_k fun Na hNa => vreg tt_ok hF rfl ?_; simp only [go_sem, Int.reduceEq, Int.reduceLT, Nat.reduceEqDiff, Nat.reduceAdd, Nat.reduceMul, Nat.reduceLT, Nat.reduceLeDiff, Int.reduceToNat]
         refine hNa _ (VWp.keep [1] [1] ?_); simp only [go_sem, Int.reduceEq, Int.reduceLT, Nat.reduceEqDiff, Nat.reduceAdd, Nat.reduceMul, Nat.reduceLT, Nat.reduceLeDiff, Int.reduceToNat]
         refine vwp_seq_k fun Nb hNb => ?_
         refine vwp_seq_k fun Nc hNc => vreg tt_ok hF rfl ?_; simp only [go_sem, Int.reduceEq, Int.reduceLT, Nat.reduceEqDiff, Nat.reduceAdd, Nat.reduceMul, Nat.reduceLT, Nat.reduceLeDiff, Int.reduceToNat]
         refine .inl ⟨_, hsz, ?_⟩; try simp only [go_sem, Int.reduceEq, Int.reduceLT, Nat.reduceEqDiff, Nat.reduceAdd, Nat.reduceMul, Nat.reduceLT, Nat.reduceLeDiff, Int.reduceToNat]
         try simp only [e1, e2, go_sem, Int.reduceEq, Int.reduceLT, Nat.reduceEqDiff, Nat.reduceAdd, Nat.reduceMul, Nat.reduceLT, Nat.reduceLeDiff, Int.reduceToNat]
         refine hNc _ (VWp.keep [1,20] [1] ?_); simp only [go_sem, Int.reduceEq, Int.reduceLT, Nat.reduceEqDiff, Nat.reduceAdd, Nat.reduceMul, Nat.reduceLT, Nat.reduceLeDiff, Int.reduceToNat]
         refine vif rfl ⟨fun _ => ?_, (fun hf => by first | cases hf | (rw [e1] at hf; cases hf) | (rw [e2] at hf; cases hf))⟩
         refine vwp_seq_k fun Nd hNd => vreg tt_ok hF rfl ?_; simp only [go_sem, Int.reduceEq, Int.reduceLT, Nat.reduceEqDiff, Nat.reduceAdd, Nat.reduceMul, Nat.reduceLT, Nat.reduceLeDiff, Int.reduceToNat]
         refine hNd _ (VWp.keep [2] [] ?_); simp only [go_sem, Int.reduceEq, Int.reduceLT, Nat.reduceEqDiff, Nat.reduceAdd, Nat.reduceMul, Nat.reduceLT, Nat.reduceLeDiff, Int.reduceToNat]
         refine vwp_ret ?_
         simp only [go_sem, Int.reduceEq, Int.reduceLT, Nat.reduceEqDiff, Nat.reduceAdd, Nat.reduceMul, Nat.reduceLT, Nat.reduceLeDiff, Int.reduceToNat]
         exact LeV.refl _)
end Go.Proofs.YtedbbinlcdgkoaaGreatDoor

/- Layer 19, the reference: units, Check. -/
namespace Go.Proofs.YtedbbinlcdgkoaaGreatDoor
open Go.RowKit
-- FUSE
-- LESS
set_option linter.unusedVariables false
set_option linter.unusedSimpArgs false
set_option maxHeartbeats 16000000 in
set_option maxRecDepth 4000 in
theorem rUnit_spec (u : UniT) (hs : u.ser.length ≤ 1000000) : Spec Tryz.prog 53 [.agg (uniC u)] (.bool (unitT u)) := by
  have hpl := rserial_spec u.ser hs
  unfold uniC unitT
  obtain ⟨b1, e1⟩ : ∃ b, decide (u.addr < 0) = b := ⟨_, rfl⟩
  obtain ⟨b2, e2⟩ : ∃ b, decide (1023 < u.addr) = b := ⟨_, rfl⟩
  rw [e1, e2]
  by_cases hb : (b1 || b2) = true
  · rw [hb]
    cases b1 <;> cases b2
    · cases hb
    all_goals
      refine spec_of tt_ok Tryz.func53 rfl (by decide) Tryz.ntmps53 (congrArg Array.toList Tryz.results53) (by simp) (by decide) rfl rfl (fun F hF => ?_)
      refine vwp_seq_k fun Na hNa => vreg tt_ok hF rfl ?_; simp only [go_sem, Int.reduceEq, Int.reduceLT, Nat.reduceEqDiff, Nat.reduceAdd, Nat.reduceMul, Nat.reduceLT, Nat.reduceLeDiff, Int.reduceToNat]
      refine hNa _ (VWp.keep [1] [1] ?_); simp only [go_sem, Int.reduceEq, Int.reduceLT, Nat.reduceEqDiff, Nat.reduceAdd, Nat.reduceMul, Nat.reduceLT, Nat.reduceLeDiff, Int.reduceToNat]
      refine vwp_seq_k fun Nb hNb => ?_
      refine vwp_seq_k fun Nc hNc => vreg tt_ok hF rfl ?_; simp only [e1, e2, go_sem, Int.reduceEq, Int.reduceLT, Nat.reduceEqDiff, Nat.reduceAdd, Nat.reduceMul, Nat.reduceLT, Nat.reduceLeDiff, Int.reduceToNat]
      refine hNc _ (VWp.keep [1,10] [1] ?_); simp only [go_sem, Int.reduceEq, Int.reduceLT, Nat.reduceEqDiff, Nat.reduceAdd, Nat.reduceMul, Nat.reduceLT, Nat.reduceLeDiff, Int.reduceToNat]
      refine vif rfl ⟨fun ht => ?_, (fun hf => by first | cases hf | (rw [e1] at hf; cases hf) | (rw [e2] at hf; cases hf))⟩
      refine vwp_seq_k fun Nd hNd => vreg tt_ok hF rfl ?_; simp only [go_sem, Int.reduceEq, Int.reduceLT, Nat.reduceEqDiff, Nat.reduceAdd, Nat.reduceMul, Nat.reduceLT, Nat.reduceLeDiff, Int.reduceToNat]
      refine hNd _ (VWp.keep [2] [] ?_); simp only [go_sem, Int.reduceEq, Int.reduceLT, Nat.reduceEqDiff, Nat.reduceAdd, Nat.reduceMul, Nat.reduceLT, Nat.reduceLeDiff, Int.reduceToNat]
      refine vwp_ret ?_
      simp only [go_sem, Int.reduceEq, Int.reduceLT, Nat.reduceEqDiff, Nat.reduceAdd, Nat.reduceMul, Nat.reduceLT, Nat.reduceLeDiff, Int.reduceToNat]
      exact LeV.refl _
  · obtain ⟨rfl, rfl⟩ : b1 = false ∧ b2 = false := by cases b1 <;> cases b2 <;> simp at hb ⊢
    rw [show (!(false || false)) = true from rfl, Bool.true_and]
    obtain ⟨g1, h1⟩ : ∃ b, decide (u.cyl = 0) = b := ⟨_, rfl⟩
    obtain ⟨g2, h2⟩ : ∃ b, decide (u.head = 0) = b := ⟨_, rfl⟩
    have hfl : flatT u = (g1 && g2) := by unfold flatT; rw [h1, h2]
    rw [hfl]
    obtain ⟨p0, e0⟩ : ∃ b, plainT u.ser 6 = b := ⟨_, rfl⟩
    rw [e0] at hpl ⊢
    obtain ⟨q0, es⟩ : ∃ b, decide (u.ser = []) = b := ⟨_, rfl⟩
    rw [es]
    refine spec_of tt_ok Tryz.func53 rfl (by decide) Tryz.ntmps53 (congrArg Array.toList Tryz.results53) (by simp) (by decide) rfl rfl (fun F hF => ?_)
    refine vwp_seq_k fun Na hNa => vreg tt_ok hF rfl ?_; simp only [go_sem, Int.reduceEq, Int.reduceLT, Nat.reduceEqDiff, Nat.reduceAdd, Nat.reduceMul, Nat.reduceLT, Nat.reduceLeDiff, Int.reduceToNat]
    refine hNa _ (VWp.keep [1] [1] ?_); simp only [go_sem, Int.reduceEq, Int.reduceLT, Nat.reduceEqDiff, Nat.reduceAdd, Nat.reduceMul, Nat.reduceLT, Nat.reduceLeDiff, Int.reduceToNat]
    refine vwp_seq_k fun Nb hNb => ?_
    refine vwp_seq_k fun Nc hNc => vreg tt_ok hF rfl ?_; simp only [e1, e2, go_sem, Int.reduceEq, Int.reduceLT, Nat.reduceEqDiff, Nat.reduceAdd, Nat.reduceMul, Nat.reduceLT, Nat.reduceLeDiff, Int.reduceToNat]
    refine hNc _ (VWp.keep [1,10] [1] ?_); simp only [go_sem, Int.reduceEq, Int.reduceLT, Nat.reduceEqDiff, Nat.reduceAdd, Nat.reduceMul, Nat.reduceLT, Nat.reduceLeDiff, Int.reduceToNat]
    refine vif rfl ⟨(fun ht => by first | cases ht | (rw [e1] at ht; cases ht) | (rw [e2] at ht; cases ht)), fun hf => ?_⟩
    refine vwp_skip (hNb _ ?_)
    refine vwp_seq_k fun Ne hNe => ?_
    refine vwp_seq_k fun Nf hNf => vreg tt_ok hF rfl ?_; simp only [go_sem, Int.reduceEq, Int.reduceLT, Nat.reduceEqDiff, Nat.reduceAdd, Nat.reduceMul, Nat.reduceLT, Nat.reduceLeDiff, Int.reduceToNat]
    refine hNf _ (VWp.keep [1,12] [1] ?_); simp only [go_sem, Int.reduceEq, Int.reduceLT, Nat.reduceEqDiff, Nat.reduceAdd, Nat.reduceMul, Nat.reduceLT, Nat.reduceLeDiff, Int.reduceToNat]
    refine vwp_block ?_
    refine vmeet (fun b : Bool => [(1, .ptr 1 0), (12, .int .i64 u.kind), (13, .bool b)]) (fun _ => [(1, .box 58 [.int .i64 u.addr, .int .i64 u.kind, .str u.ser, .int .i64 u.cyl, .int .i64 u.head])]) (fun b => b = decide (u.kind = 1 ∨ u.kind = 2 ∨ u.kind = 3)) ?_ ?_
    · by_cases k1 : u.kind = 1
      · have e : decide (u.kind = 1) = true := decide_eq_true k1
        refine vwp_seq_k fun Ni hNi => vreg tt_ok hF rfl ?_; simp only [go_sem, Int.reduceEq, Int.reduceLT, Nat.reduceEqDiff, Nat.reduceAdd, Nat.reduceMul, Nat.reduceLT, Nat.reduceLeDiff, Int.reduceToNat]
        refine hNi _ (VWp.keep [1,12,13] [1] ?_); simp only [go_sem, Int.reduceEq, Int.reduceLT, Nat.reduceEqDiff, Nat.reduceAdd, Nat.reduceMul, Nat.reduceLT, Nat.reduceLeDiff, Int.reduceToNat]
        refine vif rfl ⟨fun _ => vwp_skip ⟨true, by simp [k1], by simp only [e, go_sem, Int.reduceEq, Int.reduceLT, Nat.reduceEqDiff, Nat.reduceAdd, Nat.reduceMul, Nat.reduceLT, Nat.reduceLeDiff, Int.reduceToNat]⟩, (fun hf => by rw [e] at hf; cases hf)⟩
      · have e : decide (u.kind = 1) = false := decide_eq_false k1
        refine vwp_seq_k fun Ni hNi => vreg tt_ok hF rfl ?_; simp only [go_sem, Int.reduceEq, Int.reduceLT, Nat.reduceEqDiff, Nat.reduceAdd, Nat.reduceMul, Nat.reduceLT, Nat.reduceLeDiff, Int.reduceToNat]
        refine hNi _ (VWp.keep [1,12,13] [1] ?_); simp only [go_sem, Int.reduceEq, Int.reduceLT, Nat.reduceEqDiff, Nat.reduceAdd, Nat.reduceMul, Nat.reduceLT, Nat.reduceLeDiff, Int.reduceToNat]
        refine vif rfl ⟨(fun ht => by rw [e] at ht; cases ht), fun _ => ?_⟩
        by_cases k2 : u.kind = 2
        · have e2 : decide (u.kind = 2) = true := decide_eq_true k2
          refine vwp_seq_k fun Np hNp => vreg tt_ok hF rfl ?_; simp only [go_sem, Int.reduceEq, Int.reduceLT, Nat.reduceEqDiff, Nat.reduceAdd, Nat.reduceMul, Nat.reduceLT, Nat.reduceLeDiff, Int.reduceToNat]
          refine hNp _ (VWp.keep [1,12,13] [1] ?_); simp only [go_sem, Int.reduceEq, Int.reduceLT, Nat.reduceEqDiff, Nat.reduceAdd, Nat.reduceMul, Nat.reduceLT, Nat.reduceLeDiff, Int.reduceToNat]
          refine vif rfl ⟨fun _ => vwp_skip ⟨true, by simp [k2], by simp only [e2, go_sem, Int.reduceEq, Int.reduceLT, Nat.reduceEqDiff, Nat.reduceAdd, Nat.reduceMul, Nat.reduceLT, Nat.reduceLeDiff, Int.reduceToNat]⟩, (fun hf => by rw [e2] at hf; cases hf)⟩
        · have e2 : decide (u.kind = 2) = false := decide_eq_false k2
          refine vwp_seq_k fun Np hNp => vreg tt_ok hF rfl ?_; simp only [go_sem, Int.reduceEq, Int.reduceLT, Nat.reduceEqDiff, Nat.reduceAdd, Nat.reduceMul, Nat.reduceLT, Nat.reduceLeDiff, Int.reduceToNat]
          refine hNp _ (VWp.keep [1,12,13] [1] ?_); simp only [go_sem, Int.reduceEq, Int.reduceLT, Nat.reduceEqDiff, Nat.reduceAdd, Nat.reduceMul, Nat.reduceLT, Nat.reduceLeDiff, Int.reduceToNat]
          refine vif rfl ⟨(fun ht => by rw [e2] at ht; cases ht), fun _ => ?_⟩
          refine vreg tt_ok hF rfl ?_; simp only [go_sem, Int.reduceEq, Int.reduceLT, Nat.reduceEqDiff, Nat.reduceAdd, Nat.reduceMul, Nat.reduceLT, Nat.reduceLeDiff, Int.reduceToNat]
          exact ⟨decide (u.kind = 3), by simp [k1, k2], rfl⟩
    · intro b hb
      by_cases k123 : u.kind = 1 ∨ u.kind = 2 ∨ u.kind = 3
      · rw [if_pos k123]
        rw [decide_eq_true k123] at hb
        subst hb
        refine vif rfl ⟨fun _ => ?_, (fun hf => by cases hf)⟩
        cases q0 <;> cases g1 <;> cases g2
        all_goals
          refine vwp_seq_k fun Nj hNj => vreg tt_ok hF rfl ?_; simp only [es, h1, h2, go_sem, Int.reduceEq, Int.reduceLT, Nat.reduceEqDiff, Nat.reduceAdd, Nat.reduceMul, Nat.reduceLT, Nat.reduceLeDiff, Int.reduceToNat]
          refine hNj _ (VWp.keep [2] [] ?_); simp only [go_sem, Int.reduceEq, Int.reduceLT, Nat.reduceEqDiff, Nat.reduceAdd, Nat.reduceMul, Nat.reduceLT, Nat.reduceLeDiff, Int.reduceToNat]
          refine vwp_ret ?_
          simp only [go_sem, Int.reduceEq, Int.reduceLT, Nat.reduceEqDiff, Nat.reduceAdd, Nat.reduceMul, Nat.reduceLT, Nat.reduceLeDiff, Int.reduceToNat]
          first | exact LeV.refl _ | exact LeV.of_eq (by simp)
      · rw [if_neg k123]
        rw [decide_eq_false k123] at hb
        subst hb
        refine vif rfl ⟨(fun ht => by cases ht), fun _ => ?_⟩
        by_cases k4 : u.kind = 4
        · rw [if_pos k4]
          have e4 : decide (u.kind = 4) = true := decide_eq_true k4
          refine vwp_seq_k fun Nk hNk => vreg tt_ok hF rfl ?_; simp only [go_sem, Int.reduceEq, Int.reduceLT, Nat.reduceEqDiff, Nat.reduceAdd, Nat.reduceMul, Nat.reduceLT, Nat.reduceLeDiff, Int.reduceToNat]
          refine hNk _ (VWp.keep [1,12,30] [1] ?_); simp only [go_sem, Int.reduceEq, Int.reduceLT, Nat.reduceEqDiff, Nat.reduceAdd, Nat.reduceMul, Nat.reduceLT, Nat.reduceLeDiff, Int.reduceToNat]
          refine vif rfl ⟨fun _ => ?_, (fun hf => by rw [e4] at hf; cases hf)⟩
          cases p0 <;> cases g1 <;> cases g2
          all_goals
            refine vwp_seq_k fun Nl hNl => vreg tt_ok hF rfl ?_; simp only [go_sem, Int.reduceEq, Int.reduceLT, Nat.reduceEqDiff, Nat.reduceAdd, Nat.reduceMul, Nat.reduceLT, Nat.reduceLeDiff, Int.reduceToNat]
            refine .inl ⟨_, hpl, ?_⟩; try simp only [go_sem, Int.reduceEq, Int.reduceLT, Nat.reduceEqDiff, Nat.reduceAdd, Nat.reduceMul, Nat.reduceLT, Nat.reduceLeDiff, Int.reduceToNat]
            try simp only [h1, h2, go_sem, Int.reduceEq, Int.reduceLT, Nat.reduceEqDiff, Nat.reduceAdd, Nat.reduceMul, Nat.reduceLT, Nat.reduceLeDiff, Int.reduceToNat]
            refine hNl _ (VWp.keep [2] [] ?_); simp only [go_sem, Int.reduceEq, Int.reduceLT, Nat.reduceEqDiff, Nat.reduceAdd, Nat.reduceMul, Nat.reduceLT, Nat.reduceLeDiff, Int.reduceToNat]
            refine vwp_ret ?_
            simp only [go_sem, Int.reduceEq, Int.reduceLT, Nat.reduceEqDiff, Nat.reduceAdd, Nat.reduceMul, Nat.reduceLT, Nat.reduceLeDiff, Int.reduceToNat]
            first | exact LeV.refl _ | exact LeV.of_eq (by simp)
        · rw [if_neg k4]
          have e4 : decide (u.kind = 4) = false := decide_eq_false k4
          refine vwp_seq_k fun Nk hNk => vreg tt_ok hF rfl ?_; simp only [go_sem, Int.reduceEq, Int.reduceLT, Nat.reduceEqDiff, Nat.reduceAdd, Nat.reduceMul, Nat.reduceLT, Nat.reduceLeDiff, Int.reduceToNat]
          refine hNk _ (VWp.keep [1,12,30] [1] ?_); simp only [go_sem, Int.reduceEq, Int.reduceLT, Nat.reduceEqDiff, Nat.reduceAdd, Nat.reduceMul, Nat.reduceLT, Nat.reduceLeDiff, Int.reduceToNat]
          refine vif rfl ⟨(fun ht => by rw [e4] at ht; cases ht), fun _ => ?_⟩
          by_cases k5 : u.kind = 5
          · rw [if_pos k5]
            have e5 : decide (u.kind = 5) = true := decide_eq_true k5
            obtain ⟨r1, f1⟩ : ∃ b, decide (1 ≤ u.cyl) = b := ⟨_, rfl⟩
            obtain ⟨r2, f2⟩ : ∃ b, decide (u.cyl ≤ 64) = b := ⟨_, rfl⟩
            obtain ⟨r3, f3⟩ : ∃ b, decide (1 ≤ u.head) = b := ⟨_, rfl⟩
            rw [f1, f2, f3]
            refine vwp_seq_k fun Nm hNm => vreg tt_ok hF rfl ?_; simp only [go_sem, Int.reduceEq, Int.reduceLT, Nat.reduceEqDiff, Nat.reduceAdd, Nat.reduceMul, Nat.reduceLT, Nat.reduceLeDiff, Int.reduceToNat]
            refine hNm _ (VWp.keep [1,45] [1] ?_); simp only [go_sem, Int.reduceEq, Int.reduceLT, Nat.reduceEqDiff, Nat.reduceAdd, Nat.reduceMul, Nat.reduceLT, Nat.reduceLeDiff, Int.reduceToNat]
            refine vif rfl ⟨fun _ => ?_, (fun hf => by rw [e5] at hf; cases hf)⟩
            cases p0
            · refine vwp_seq_k fun Nn hNn => vreg tt_ok hF rfl ?_; simp only [go_sem, Int.reduceEq, Int.reduceLT, Nat.reduceEqDiff, Nat.reduceAdd, Nat.reduceMul, Nat.reduceLT, Nat.reduceLeDiff, Int.reduceToNat]
              refine .inl ⟨_, hpl, ?_⟩; try simp only [go_sem, Int.reduceEq, Int.reduceLT, Nat.reduceEqDiff, Nat.reduceAdd, Nat.reduceMul, Nat.reduceLT, Nat.reduceLeDiff, Int.reduceToNat]
              refine hNn _ (VWp.keep [2] [] ?_); simp only [go_sem, Int.reduceEq, Int.reduceLT, Nat.reduceEqDiff, Nat.reduceAdd, Nat.reduceMul, Nat.reduceLT, Nat.reduceLeDiff, Int.reduceToNat]
              refine vwp_ret ?_
              simp only [go_sem, Int.reduceEq, Int.reduceLT, Nat.reduceEqDiff, Nat.reduceAdd, Nat.reduceMul, Nat.reduceLT, Nat.reduceLeDiff, Int.reduceToNat]
              exact LeV.refl _
            · cases r1 <;> cases r2 <;> cases r3
              all_goals
                refine vwp_seq_k fun Nn hNn => vreg tt_ok hF rfl ?_; simp only [go_sem, Int.reduceEq, Int.reduceLT, Nat.reduceEqDiff, Nat.reduceAdd, Nat.reduceMul, Nat.reduceLT, Nat.reduceLeDiff, Int.reduceToNat]
                refine .inl ⟨_, hpl, ?_⟩; try simp only [go_sem, Int.reduceEq, Int.reduceLT, Nat.reduceEqDiff, Nat.reduceAdd, Nat.reduceMul, Nat.reduceLT, Nat.reduceLeDiff, Int.reduceToNat]
                try simp only [f1, f2, f3, go_sem, Int.reduceEq, Int.reduceLT, Nat.reduceEqDiff, Nat.reduceAdd, Nat.reduceMul, Nat.reduceLT, Nat.reduceLeDiff, Int.reduceToNat]
                refine hNn _ (VWp.keep [2] [] ?_); simp only [go_sem, Int.reduceEq, Int.reduceLT, Nat.reduceEqDiff, Nat.reduceAdd, Nat.reduceMul, Nat.reduceLT, Nat.reduceLeDiff, Int.reduceToNat]
                refine vwp_ret ?_
                simp only [go_sem, Int.reduceEq, Int.reduceLT, Nat.reduceEqDiff, Nat.reduceAdd, Nat.reduceMul, Nat.reduceLT, Nat.reduceLeDiff, Int.reduceToNat]
                first | exact LeV.refl _ | exact LeV.of_eq (by simp)
          · rw [if_neg k5]
            have e5 : decide (u.kind = 5) = false := decide_eq_false k5
            refine vwp_seq_k fun Nm hNm => vreg tt_ok hF rfl ?_; simp only [go_sem, Int.reduceEq, Int.reduceLT, Nat.reduceEqDiff, Nat.reduceAdd, Nat.reduceMul, Nat.reduceLT, Nat.reduceLeDiff, Int.reduceToNat]
            refine hNm _ (VWp.keep [1,45] [1] ?_); simp only [go_sem, Int.reduceEq, Int.reduceLT, Nat.reduceEqDiff, Nat.reduceAdd, Nat.reduceMul, Nat.reduceLT, Nat.reduceLeDiff, Int.reduceToNat]
            refine vif rfl ⟨(fun ht => by rw [e5] at ht; cases ht), fun _ => ?_⟩
            refine vwp_skip (hNe _ ?_)
            refine vwp_seq_k fun No hNo => vreg tt_ok hF rfl ?_; simp only [go_sem, Int.reduceEq, Int.reduceLT, Nat.reduceEqDiff, Nat.reduceAdd, Nat.reduceMul, Nat.reduceLT, Nat.reduceLeDiff, Int.reduceToNat]
            refine hNo _ (VWp.keep [2] [] ?_); simp only [go_sem, Int.reduceEq, Int.reduceLT, Nat.reduceEqDiff, Nat.reduceAdd, Nat.reduceMul, Nat.reduceLT, Nat.reduceLeDiff, Int.reduceToNat]
            refine vwp_ret ?_
            simp only [go_sem, Int.reduceEq, Int.reduceLT, Nat.reduceEqDiff, Nat.reduceAdd, Nat.reduceMul, Nat.reduceLT, Nat.reduceLeDiff, Int.reduceToNat]
            rw [if_neg k123, if_neg k4, if_neg k5]
            exact LeV.refl _
set_option maxHeartbeats 16000000 in
set_option maxRecDepth 4000 in
theorem rCheck_spec (c : CfgT) (hsl : ∀ u ∈ c.us, u.ser.length ≤ 1000000) : Spec Tryz.prog 30 [.agg (cfgC c)] (.bool (cfgT c)) := by
  have hsz := rsize_spec c.store
  unfold cfgC
  obtain ⟨b0, e0⟩ : ∃ b, formT c = b := ⟨_, rfl⟩
  have he0 := e0
  unfold formT at he0
  obtain ⟨b1, e1⟩ : ∃ b, sizT c.store = b := ⟨_, rfl⟩
  obtain ⟨b2, e2⟩ : ∃ b, decide ((c.ps.length : Int) < 1) = b := ⟨_, rfl⟩
  obtain ⟨b3, e3⟩ : ∃ b, decide ((4 : Int) < c.ps.length) = b := ⟨_, rfl⟩
  obtain ⟨b4, e4⟩ : ∃ b, decide ((16 : Int) < c.us.length) = b := ⟨_, rfl⟩
  rw [e1] at hsz
  rw [e1, e2, e3, e4] at he0
  refine spec_of tt_ok Tryz.func30 rfl (by decide) Tryz.ntmps30 (congrArg Array.toList Tryz.results30) (by simp) (by decide) rfl rfl (fun F hF => ?_)
  refine vwp_seq_k fun Na hNa => vreg tt_ok hF rfl ?_; simp only [go_sem, Int.reduceEq, Int.reduceLT, Nat.reduceEqDiff, Nat.reduceAdd, Nat.reduceMul, Nat.reduceLT, Nat.reduceLeDiff, Int.reduceToNat]
  refine hNa _ (VWp.keep [1] [1] ?_); simp only [go_sem, Int.reduceEq, Int.reduceLT, Nat.reduceEqDiff, Nat.reduceAdd, Nat.reduceMul, Nat.reduceLT, Nat.reduceLeDiff, Int.reduceToNat]
  refine vmeet (fun _ : Unit => [(1, .ptr 1 0)]) (fun _ => [(1, .box 39 [.sl 5 (c.us.map uniC), .int .i64 c.store, .sl 2 (c.ps.map parC)])]) (fun _ => formT c = true) ?_ ?_
  · have hno : b0 = false → cfgT c = false := fun q => by unfold cfgT; rw [e0, q]; rfl
    rcases hb : b0 with _ | _
    · have hno := hno hb
      rw [hno]
      have hsome : b1 = false ∨ (b1 = true ∧ b2 = true) ∨ (b1 = true ∧ b2 = false ∧ b3 = true) ∨ (b1 = true ∧ b2 = false ∧ b3 = false ∧ b4 = true) := by
        rw [hb] at he0; cases b1 <;> cases b2 <;> cases b3 <;> cases b4 <;> simp at he0 ⊢
      rcases hsome with rfl | ⟨rfl, rfl⟩ | ⟨rfl, rfl, rfl⟩ | ⟨rfl, rfl, rfl, rfl⟩
      all_goals
        refine vwp_seq_k fun Nc hNc => vreg tt_ok hF rfl ?_; simp only [go_sem, Int.reduceEq, Int.reduceLT, Nat.reduceEqDiff, Nat.reduceAdd, Nat.reduceMul, Nat.reduceLT, Nat.reduceLeDiff, Int.reduceToNat]
        refine .inl ⟨_, hsz, ?_⟩; try simp only [go_sem, Int.reduceEq, Int.reduceLT, Nat.reduceEqDiff, Nat.reduceAdd, Nat.reduceMul, Nat.reduceLT, Nat.reduceLeDiff, Int.reduceToNat]
        try simp only [e2, e3, e4, go_sem, Int.reduceEq, Int.reduceLT, Nat.reduceEqDiff, Nat.reduceAdd, Nat.reduceMul, Nat.reduceLT, Nat.reduceLeDiff, Int.reduceToNat]
        refine hNc _ (VWp.keep [1,29] [1] ?_); simp only [go_sem, Int.reduceEq, Int.reduceLT, Nat.reduceEqDiff, Nat.reduceAdd, Nat.reduceMul, Nat.reduceLT, Nat.reduceLeDiff, Int.reduceToNat]
        refine vif rfl ⟨fun ht => ?_, (fun hf => by first | cases hf | (rw [e4] at hf; cases hf))⟩
        refine vwp_seq_k fun Nd hNd => vreg tt_ok hF rfl ?_; simp only [go_sem, Int.reduceEq, Int.reduceLT, Nat.reduceEqDiff, Nat.reduceAdd, Nat.reduceMul, Nat.reduceLT, Nat.reduceLeDiff, Int.reduceToNat]
        refine hNd _ (VWp.keep [2] [] ?_); simp only [go_sem, Int.reduceEq, Int.reduceLT, Nat.reduceEqDiff, Nat.reduceAdd, Nat.reduceMul, Nat.reduceLT, Nat.reduceLeDiff, Int.reduceToNat]
        refine vwp_ret ?_
        simp only [hno, go_sem, Int.reduceEq, Int.reduceLT, Nat.reduceEqDiff, Nat.reduceAdd, Nat.reduceMul, Nat.reduceLT, Nat.reduceLeDiff, Int.reduceToNat]
        exact LeV.refl _
    · obtain ⟨rfl, rfl, rfl, rfl⟩ : b1 = true ∧ b2 = false ∧ b3 = false ∧ b4 = false := by
        rw [hb] at he0; cases b1 <;> cases b2 <;> cases b3 <;> cases b4 <;> simp at he0 ⊢
      refine vwp_seq_k fun Nc hNc => vreg tt_ok hF rfl ?_; simp only [go_sem, Int.reduceEq, Int.reduceLT, Nat.reduceEqDiff, Nat.reduceAdd, Nat.reduceMul, Nat.reduceLT, Nat.reduceLeDiff, Int.reduceToNat]
      refine .inl ⟨_, hsz, ?_⟩; try simp only [go_sem, Int.reduceEq, Int.reduceLT, Nat.reduceEqDiff, Nat.reduceAdd, Nat.reduceMul, Nat.reduceLT, Nat.reduceLeDiff, Int.reduceToNat]
      try simp only [e2, e3, e4, go_sem, Int.reduceEq, Int.reduceLT, Nat.reduceEqDiff, Nat.reduceAdd, Nat.reduceMul, Nat.reduceLT, Nat.reduceLeDiff, Int.reduceToNat]
      refine hNc _ (VWp.keep [1,29] [1] ?_); simp only [go_sem, Int.reduceEq, Int.reduceLT, Nat.reduceEqDiff, Nat.reduceAdd, Nat.reduceMul, Nat.reduceLT, Nat.reduceLeDiff, Int.reduceToNat]
      refine vif rfl ⟨(fun ht => by first | cases ht | (rw [e4] at ht; cases ht)), fun hf => ?_⟩
      exact vwp_skip ⟨(), by rw [e0, hb], by simp only [go_sem, Int.reduceEq, Int.reduceLT, Nat.reduceEqDiff, Nat.reduceAdd, Nat.reduceMul, Nat.reduceLT, Nat.reduceLeDiff, Int.reduceToNat]⟩
  · intro _ hform
    have hfo := hform
    unfold formT at hfo
    simp only [Bool.not_eq_true', Bool.or_eq_false_iff, decide_eq_false_iff_not] at hfo
    obtain ⟨⟨⟨_, g2⟩, g3⟩, g4⟩ := hfo
    refine vwp_seq_k fun Ne hNe => vreg tt_ok hF rfl ?_; simp only [go_sem, Int.reduceEq, Int.reduceLT, Nat.reduceEqDiff, Nat.reduceAdd, Nat.reduceMul, Nat.reduceLT, Nat.reduceLeDiff, Int.reduceToNat]
    refine hNe _ (VWp.keep [1,3] [1] ?_); simp only [go_sem, Int.reduceEq, Int.reduceLT, Nat.reduceEqDiff, Nat.reduceAdd, Nat.reduceMul, Nat.reduceLT, Nat.reduceLeDiff, Int.reduceToNat]
    refine vwp_seq_k fun Nf hNf => ?_
    refine vwp_seq_k fun Ng hNg => vreg tt_ok hF rfl ?_; simp only [go_sem, Int.reduceEq, Int.reduceLT, Nat.reduceEqDiff, Nat.reduceAdd, Nat.reduceMul, Nat.reduceLT, Nat.reduceLeDiff, Int.reduceToNat]
    refine hNg _ (VWp.keep [1,3,4] [1] ?_); simp only [go_sem, Int.reduceEq, Int.reduceLT, Nat.reduceEqDiff, Nat.reduceAdd, Nat.reduceMul, Nat.reduceLT, Nat.reduceLeDiff, Int.reduceToNat]
    refine vwp_block (vloop (fun k : Nat => [(1, .ptr 1 0), (3, .int .i64 (sumT (c.ps.take k))), (4, .int .i64 (k : Int))])
      (fun _ => [(1, .box 39 [.sl 5 (c.us.map uniC), .int .i64 c.store, .sl 2 (c.ps.map parC)])]) (fun k => k ≤ c.ps.length ∧ ∀ p ∈ c.ps.take k, partT p = true) (fun k => c.ps.length - k) 0 ⟨Nat.zero_le _, fun p hp => by cases hp⟩ (by simp only [List.take_zero, go_sem, Int.reduceEq, Int.reduceLT, Nat.reduceEqDiff, Nat.reduceAdd, Nat.reduceMul, Nat.reduceLT, Nat.reduceLeDiff, Int.reduceToNat]; try rfl) ?_)
    rintro k ⟨hk, hall⟩
    refine vwp_seq_k fun Nh hNh => ?_
    refine vwp_seq_k fun Ni hNi => vreg tt_ok hF rfl ?_; simp only [List.length_map, go_sem, Int.reduceEq, Int.reduceLT, Nat.reduceEqDiff, Nat.reduceAdd, Nat.reduceMul, Nat.reduceLT, Nat.reduceLeDiff, Int.reduceToNat]
    refine hNi _ (VWp.keep [1,3,4,34] [1] ?_); simp only [go_sem, Int.reduceEq, Int.reduceLT, Nat.reduceEqDiff, Nat.reduceAdd, Nat.reduceMul, Nat.reduceLT, Nat.reduceLeDiff, Int.reduceToNat]
    refine vif rfl ⟨fun ht => ?_, fun hf => ?_⟩
    · have hlt : k < c.ps.length := by have := of_decide_eq_true ht; omega
      have hget := par_row hlt
      have hva : Spec Tryz.prog 52 [.agg [.int .i64 c.ps[k].size, .str c.ps[k].cls]] (.bool (partT c.ps[k])) := rPart_spec c.ps[k]
      have hstep := sum_step c.ps k hlt
      refine vwp_skip (hNh _ ?_)
      refine vwp_seq_k fun Nj hNj => ?_
      refine vwp_block ?_
      refine vwp_seq_k fun Nl hNl => ?_
      rcases hpv : partT c.ps[k] with _ | _
      · have hno : cfgT c = false := by
          unfold cfgT
          have : c.ps.all partT = false := by
            rw [← Bool.not_eq_true]; intro q
            rw [List.all_eq_true.1 q _ (List.getElem_mem hlt)] at hpv; cases hpv
          rw [this, Bool.and_false]; rfl
        rw [hpv] at hva
        refine vwp_seq_k fun Nm hNm => vreg tt_ok hF rfl ?_; simp only [hget, List.length_map, Int.toNat_natCast, go_sem, Int.reduceEq, Int.reduceLT, Nat.reduceEqDiff, Nat.reduceAdd, Nat.reduceMul, Nat.reduceLT, Nat.reduceLeDiff, Int.reduceToNat]
        refine ⟨⟨by omega, by omega⟩, ?_⟩
        refine .inl ⟨_, hva, ?_⟩; try simp only [go_sem, Int.reduceEq, Int.reduceLT, Nat.reduceEqDiff, Nat.reduceAdd, Nat.reduceMul, Nat.reduceLT, Nat.reduceLeDiff, Int.reduceToNat]
        refine hNm _ (VWp.keep [1,3,4,43] [1] ?_); simp only [go_sem, Int.reduceEq, Int.reduceLT, Nat.reduceEqDiff, Nat.reduceAdd, Nat.reduceMul, Nat.reduceLT, Nat.reduceLeDiff, Int.reduceToNat]
        refine vif rfl ⟨fun ht => ?_, (fun hf => by cases hf)⟩
        refine vwp_seq_k fun Nn hNn => vreg tt_ok hF rfl ?_; simp only [go_sem, Int.reduceEq, Int.reduceLT, Nat.reduceEqDiff, Nat.reduceAdd, Nat.reduceMul, Nat.reduceLT, Nat.reduceLeDiff, Int.reduceToNat]
        refine hNn _ (VWp.keep [2] [] ?_); simp only [go_sem, Int.reduceEq, Int.reduceLT, Nat.reduceEqDiff, Nat.reduceAdd, Nat.reduceMul, Nat.reduceLT, Nat.reduceLeDiff, Int.reduceToNat]
        refine vwp_ret ?_
        simp only [hno, go_sem, Int.reduceEq, Int.reduceLT, Nat.reduceEqDiff, Nat.reduceAdd, Nat.reduceMul, Nat.reduceLT, Nat.reduceLeDiff, Int.reduceToNat]
        exact LeV.refl _
      · rw [hpv] at hva
        refine vwp_seq_k fun Nm hNm => vreg tt_ok hF rfl ?_; simp only [hget, List.length_map, Int.toNat_natCast, go_sem, Int.reduceEq, Int.reduceLT, Nat.reduceEqDiff, Nat.reduceAdd, Nat.reduceMul, Nat.reduceLT, Nat.reduceLeDiff, Int.reduceToNat]
        refine ⟨⟨by omega, by omega⟩, ?_⟩
        refine .inl ⟨_, hva, ?_⟩; try simp only [go_sem, Int.reduceEq, Int.reduceLT, Nat.reduceEqDiff, Nat.reduceAdd, Nat.reduceMul, Nat.reduceLT, Nat.reduceLeDiff, Int.reduceToNat]
        refine hNm _ (VWp.keep [1,3,4,43] [1] ?_); simp only [go_sem, Int.reduceEq, Int.reduceLT, Nat.reduceEqDiff, Nat.reduceAdd, Nat.reduceMul, Nat.reduceLT, Nat.reduceLeDiff, Int.reduceToNat]
        refine vif rfl ⟨(fun ht => by cases ht), fun hf => ?_⟩
        refine vwp_skip (hNl _ ?_)
        have hall2 : ∀ p ∈ c.ps.take (k + 1), partT p = true := fun p hp => by
          rw [List.take_succ_eq_append_getElem hlt] at hp
          rcases List.mem_append.1 hp with q | q
          · exact hall p q
          · rw [List.mem_singleton] at q; rw [q]; exact hpv
        have hbd := sum_bound (c.ps.take (k + 1)) 8192 hall2
        have hbd2 : (c.ps.take (k + 1)).length ≤ 4 := by rw [List.length_take]; omega
        have hbd3 : 8192 ≤ sumT (c.ps.take (k + 1)) ∧ sumT (c.ps.take (k + 1)) ≤ 8192 + 65536 * 4 := by unfold sumT; omega
        refine vreg tt_ok hF rfl ?_; simp only [hget, List.length_map, Int.toNat_natCast, go_sem, Int.reduceEq, Int.reduceLT, Nat.reduceEqDiff, Nat.reduceAdd, Nat.reduceMul, Nat.reduceLT, Nat.reduceLeDiff, Int.reduceToNat]
        refine ⟨⟨by omega, by omega⟩, ?_⟩
        rw [← hstep, wrap_i64 (by omega) (by omega)]
        refine hNj _ (VWp.keep [1,3,4] [1] ?_); simp only [go_sem, Int.reduceEq, Int.reduceLT, Nat.reduceEqDiff, Nat.reduceAdd, Nat.reduceMul, Nat.reduceLT, Nat.reduceLeDiff, Int.reduceToNat]
        refine vreg tt_ok hF rfl ?_; simp only [go_sem, Int.reduceEq, Int.reduceLT, Nat.reduceEqDiff, Nat.reduceAdd, Nat.reduceMul, Nat.reduceLT, Nat.reduceLeDiff, Int.reduceToNat]
        rw [wrap_i64 (by omega) (by omega)]
        exact ⟨k + 1, ⟨by omega, hall2⟩, by omega, by simp⟩
    · have hke : k = c.ps.length := by have := of_decide_eq_false hf; omega
      subst hke
      rw [List.take_length] at hall
      have hpa : c.ps.all partT = true := List.all_eq_true.2 hall
      have hcf : cfgT c = (unitsT c.us && !decide (c.store < sumT c.ps)) := by unfold cfgT; rw [hform, hpa, Bool.true_and, Bool.true_and]
      refine vwp_exit ?_
      simp only [List.take_length, go_sem, Int.reduceEq, Int.reduceLT, Nat.reduceEqDiff, Nat.reduceAdd, Nat.reduceMul, Nat.reduceLT, Nat.reduceLeDiff, Int.reduceToNat]
      refine hNf _ (VWp.keep [1,3] [1] ?_); simp only [go_sem, Int.reduceEq, Int.reduceLT, Nat.reduceEqDiff, Nat.reduceAdd, Nat.reduceMul, Nat.reduceLT, Nat.reduceLeDiff, Int.reduceToNat]
      refine vwp_seq_k fun Nn hNn => ?_
      refine vwp_seq_k fun No hNo => vreg tt_ok hF rfl ?_; simp only [go_sem, Int.reduceEq, Int.reduceLT, Nat.reduceEqDiff, Nat.reduceAdd, Nat.reduceMul, Nat.reduceLT, Nat.reduceLeDiff, Int.reduceToNat]
      refine hNo _ (VWp.keep [1,3,5] [1] ?_); simp only [go_sem, Int.reduceEq, Int.reduceLT, Nat.reduceEqDiff, Nat.reduceAdd, Nat.reduceMul, Nat.reduceLT, Nat.reduceLeDiff, Int.reduceToNat]
      refine vwp_block (vloop (fun k : Nat => [(1, .ptr 1 0), (3, .int .i64 (sumT c.ps)), (5, .int .i64 (k : Int))])
        (fun k => [(1, .box 39 [.sl 5 (c.us.map uniC), .int .i64 c.store, .sl 2 (c.ps.map parC)])]) (fun k => k ≤ c.us.length ∧ ∀ j, j < k → unit1T c.us j = true) (fun k => c.us.length - k) 0 ⟨Nat.zero_le _, fun j h => absurd h (by omega)⟩ (by simp only [go_sem, Int.reduceEq, Int.reduceLT, Nat.reduceEqDiff, Nat.reduceAdd, Nat.reduceMul, Nat.reduceLT, Nat.reduceLeDiff, Int.reduceToNat]; try rfl) ?_)
      rintro k ⟨hk, hall2⟩
      refine vwp_seq_k fun Np hNp => ?_
      refine vwp_seq_k fun Nq hNq => vreg tt_ok hF rfl ?_; simp only [List.length_map, go_sem, Int.reduceEq, Int.reduceLT, Nat.reduceEqDiff, Nat.reduceAdd, Nat.reduceMul, Nat.reduceLT, Nat.reduceLeDiff, Int.reduceToNat]
      refine hNq _ (VWp.keep [1,3,5,56] [1] ?_); simp only [go_sem, Int.reduceEq, Int.reduceLT, Nat.reduceEqDiff, Nat.reduceAdd, Nat.reduceMul, Nat.reduceLT, Nat.reduceLeDiff, Int.reduceToNat]
      refine vif rfl ⟨fun ht => ?_, fun hf => ?_⟩
      · have hlt : k < c.us.length := by have := of_decide_eq_true ht; omega
        have hget := uni_row hlt
        have hvu : Spec Tryz.prog 53 [.agg [.int .i64 c.us[k].addr, .int .i64 c.us[k].kind, .str c.us[k].ser, .int .i64 c.us[k].cyl, .int .i64 c.us[k].head]] (.bool (unitT c.us[k])) := rUnit_spec c.us[k] (hsl _ (List.getElem_mem hlt))
        have hD : c.us.getD k ⟨0, 0, [], 0, 0⟩ = c.us[k] := by simp [List.getD_eq_getElem?_getD, List.getElem?_eq_getElem hlt]
        have hu1 : unit1T c.us k = (unitT c.us[k] && (decide (k = 0) || !decide (c.us[k].addr ≤ (c.us.getD (k - 1) ⟨0, 0, [], 0, 0⟩).addr)) && !((c.us.take k).any fun u => !decide (u.ser = []) && decide (u.ser = c.us[k].ser))) := by unfold unit1T; rw [hD]
        have hbad : unit1T c.us k = false → cfgT c = false := fun q => by
          rw [hcf]
          have : unitsT c.us = false := by
            rw [← Bool.not_eq_true]; intro z
            rw [List.all_eq_true.1 z k (List.mem_range.2 hlt)] at q; cases q
          rw [this]; rfl
        refine vwp_skip (hNp _ ?_)
        refine vwp_seq_k fun Nr hNr => ?_
        refine vwp_block ?_
        refine vwp_seq_k fun Ns hNs => vreg tt_ok hF rfl ?_; simp only [hget, List.length_map, Int.toNat_natCast, go_sem, Int.reduceEq, Int.reduceLT, Nat.reduceEqDiff, Nat.reduceAdd, Nat.reduceMul, Nat.reduceLT, Nat.reduceLeDiff, Int.reduceToNat]
        refine ⟨⟨by omega, by omega⟩, ?_⟩
        refine hNs _ (VWp.keep [1,3,5,6] [1,6] ?_); simp only [go_sem, Int.reduceEq, Int.reduceLT, Nat.reduceEqDiff, Nat.reduceAdd, Nat.reduceMul, Nat.reduceLT, Nat.reduceLeDiff, Int.reduceToNat]
        refine vmeet (fun _ : Unit => [(1, .ptr 1 0), (3, .int .i64 (sumT c.ps)), (5, .int .i64 (k : Int)), (6, .ptr 6 0)]) (fun _ => [(1, .box 39 [.sl 5 (c.us.map uniC), .int .i64 c.store, .sl 2 (c.ps.map parC)]), (6, .box 58 [.int .i64 c.us[k].addr, .int .i64 c.us[k].kind, .str c.us[k].ser, .int .i64 c.us[k].cyl, .int .i64 c.us[k].head])])
          (fun _ => unitT c.us[k] = true ∧ (decide (k = 0) || !decide (c.us[k].addr ≤ (c.us.getD (k - 1) ⟨0, 0, [], 0, 0⟩).addr)) = true) ?_ ?_
        · rcases hv : unitT c.us[k] with _ | _
          · have hno := hbad (by rw [hu1, hv]; rfl)
            rw [hv] at hvu
            refine vwp_seq_k fun Nu hNu => vregd tt_ok mixed hF rfl (by kernel_rfl) (by kernel_rfl) ?_; simp only [go_sem, Int.reduceEq, Int.reduceLT, Nat.reduceEqDiff, Nat.reduceAdd, Nat.reduceMul, Nat.reduceLT, Nat.reduceLeDiff, Int.reduceToNat]
            refine .inl ⟨_, hvu, ?_⟩; try simp only [go_sem, Int.reduceEq, Int.reduceLT, Nat.reduceEqDiff, Nat.reduceAdd, Nat.reduceMul, Nat.reduceLT, Nat.reduceLeDiff, Int.reduceToNat]
            refine hNu _ (VWp.keep [1,3,5,6,82] [1,6] ?_); simp only [go_sem, Int.reduceEq, Int.reduceLT, Nat.reduceEqDiff, Nat.reduceAdd, Nat.reduceMul, Nat.reduceLT, Nat.reduceLeDiff, Int.reduceToNat]
            refine vif rfl ⟨fun ht => ?_, (fun hf => by cases hf)⟩
            refine vwp_seq_k fun Nv hNv => vreg tt_ok hF rfl ?_; simp only [go_sem, Int.reduceEq, Int.reduceLT, Nat.reduceEqDiff, Nat.reduceAdd, Nat.reduceMul, Nat.reduceLT, Nat.reduceLeDiff, Int.reduceToNat]
            refine hNv _ (VWp.keep [2] [] ?_); simp only [go_sem, Int.reduceEq, Int.reduceLT, Nat.reduceEqDiff, Nat.reduceAdd, Nat.reduceMul, Nat.reduceLT, Nat.reduceLeDiff, Int.reduceToNat]
            refine vwp_ret ?_
            simp only [hno, go_sem, Int.reduceEq, Int.reduceLT, Nat.reduceEqDiff, Nat.reduceAdd, Nat.reduceMul, Nat.reduceLT, Nat.reduceLeDiff, Int.reduceToNat]
            exact LeV.refl _
          · rw [hv] at hvu
            by_cases hk0 : k = 0
            · have ek : decide ((0 : Int) < (k : Int)) = false := decide_eq_false (by omega)
              refine vwp_seq_k fun Nu hNu => vregd tt_ok mixed hF rfl (by kernel_rfl) (by kernel_rfl) ?_; simp only [go_sem, Int.reduceEq, Int.reduceLT, Nat.reduceEqDiff, Nat.reduceAdd, Nat.reduceMul, Nat.reduceLT, Nat.reduceLeDiff, Int.reduceToNat]
              refine .inl ⟨_, hvu, ?_⟩; try simp only [go_sem, Int.reduceEq, Int.reduceLT, Nat.reduceEqDiff, Nat.reduceAdd, Nat.reduceMul, Nat.reduceLT, Nat.reduceLeDiff, Int.reduceToNat]
              simp only [ek, go_sem, Int.reduceEq, Int.reduceLT, Nat.reduceEqDiff, Nat.reduceAdd, Nat.reduceMul, Nat.reduceLT, Nat.reduceLeDiff, Int.reduceToNat]
              refine hNu _ (VWp.keep [1,3,5,6,82] [1,6] ?_); simp only [go_sem, Int.reduceEq, Int.reduceLT, Nat.reduceEqDiff, Nat.reduceAdd, Nat.reduceMul, Nat.reduceLT, Nat.reduceLeDiff, Int.reduceToNat]
              refine vif rfl ⟨(fun ht => by cases ht), fun _ => ?_⟩
              exact vwp_skip ⟨(), by first | exact ⟨trivial, by rw [decide_eq_true hk0]; rfl⟩ | (rw [decide_eq_true hk0]; rfl) | simp [hk0], by simp only [go_sem, Int.reduceEq, Int.reduceLT, Nat.reduceEqDiff, Nat.reduceAdd, Nat.reduceMul, Nat.reduceLT, Nat.reduceLeDiff, Int.reduceToNat]⟩
            · have ek : decide ((0 : Int) < (k : Int)) = true := decide_eq_true (by omega)
              have hprev : c.us.getD (k - 1) ⟨0, 0, [], 0, 0⟩ = c.us[k - 1]'(by omega) := by simp [List.getD_eq_getElem?_getD, List.getElem?_eq_getElem (show k - 1 < c.us.length by omega)]
              have hget1 := uni_row (us := c.us) (k := k - 1) (by omega)
              have hw : IntKind.i64.wrap ((k : Int) - 1) = ((k - 1 : Nat) : Int) := by rw [wrap_i64 (by omega) (by omega)]; omega
              rw [hprev]
              rcases hle : decide (c.us[k].addr ≤ (c.us[k - 1]'(by omega)).addr) with _ | _
              · refine vwp_seq_k fun Nu hNu => vregd tt_ok mixed hF rfl (by kernel_rfl) (by kernel_rfl) ?_; simp only [go_sem, Int.reduceEq, Int.reduceLT, Nat.reduceEqDiff, Nat.reduceAdd, Nat.reduceMul, Nat.reduceLT, Nat.reduceLeDiff, Int.reduceToNat]
                refine .inl ⟨_, hvu, ?_⟩; try simp only [go_sem, Int.reduceEq, Int.reduceLT, Nat.reduceEqDiff, Nat.reduceAdd, Nat.reduceMul, Nat.reduceLT, Nat.reduceLeDiff, Int.reduceToNat]
                simp only [ek, hw, List.length_map, go_sem, Int.reduceEq, Int.reduceLT, Nat.reduceEqDiff, Nat.reduceAdd, Nat.reduceMul, Nat.reduceLT, Nat.reduceLeDiff, Int.reduceToNat]
                refine ⟨⟨by omega, by omega⟩, by first | (rw [hget1]; exact (by decide : 0 < 5)) | (rw [Int.toNat_natCast, hget1]; exact (by decide : 0 < 5)), ?_⟩
                simp only [hget1, Int.toNat_natCast, hle, go_sem, Int.reduceEq, Int.reduceLT, Nat.reduceEqDiff, Nat.reduceAdd, Nat.reduceMul, Nat.reduceLT, Nat.reduceLeDiff, Int.reduceToNat]
                refine hNu _ (VWp.keep [1,3,5,6,82] [1,6] ?_); simp only [go_sem, Int.reduceEq, Int.reduceLT, Nat.reduceEqDiff, Nat.reduceAdd, Nat.reduceMul, Nat.reduceLT, Nat.reduceLeDiff, Int.reduceToNat]
                refine vif rfl ⟨(fun ht => by first | cases ht | (rw [hle] at ht; cases ht)), fun _ => ?_⟩
                exact vwp_skip ⟨(), by first | exact ⟨trivial, by rw [decide_eq_false hk0]; rfl⟩ | (rw [decide_eq_false hk0]; rfl) | simp [hk0], by simp only [go_sem, Int.reduceEq, Int.reduceLT, Nat.reduceEqDiff, Nat.reduceAdd, Nat.reduceMul, Nat.reduceLT, Nat.reduceLeDiff, Int.reduceToNat]⟩
              · have hno := hbad (by rw [hu1, hprev, hle, decide_eq_false hk0, hv]; rfl)
                refine vwp_seq_k fun Nu hNu => vregd tt_ok mixed hF rfl (by kernel_rfl) (by kernel_rfl) ?_; simp only [go_sem, Int.reduceEq, Int.reduceLT, Nat.reduceEqDiff, Nat.reduceAdd, Nat.reduceMul, Nat.reduceLT, Nat.reduceLeDiff, Int.reduceToNat]
                refine .inl ⟨_, hvu, ?_⟩; try simp only [go_sem, Int.reduceEq, Int.reduceLT, Nat.reduceEqDiff, Nat.reduceAdd, Nat.reduceMul, Nat.reduceLT, Nat.reduceLeDiff, Int.reduceToNat]
                simp only [ek, hw, List.length_map, go_sem, Int.reduceEq, Int.reduceLT, Nat.reduceEqDiff, Nat.reduceAdd, Nat.reduceMul, Nat.reduceLT, Nat.reduceLeDiff, Int.reduceToNat]
                refine ⟨⟨by omega, by omega⟩, by first | (rw [hget1]; exact (by decide : 0 < 5)) | (rw [Int.toNat_natCast, hget1]; exact (by decide : 0 < 5)), ?_⟩
                simp only [hget1, Int.toNat_natCast, hle, go_sem, Int.reduceEq, Int.reduceLT, Nat.reduceEqDiff, Nat.reduceAdd, Nat.reduceMul, Nat.reduceLT, Nat.reduceLeDiff, Int.reduceToNat]
                refine hNu _ (VWp.keep [1,3,5,6,82] [1,6] ?_); simp only [go_sem, Int.reduceEq, Int.reduceLT, Nat.reduceEqDiff, Nat.reduceAdd, Nat.reduceMul, Nat.reduceLT, Nat.reduceLeDiff, Int.reduceToNat]
                refine vif rfl ⟨fun _ => ?_, (fun hf => by first | cases hf | (rw [hle] at hf; cases hf))⟩
                refine vwp_seq_k fun Nv hNv => vreg tt_ok hF rfl ?_; simp only [go_sem, Int.reduceEq, Int.reduceLT, Nat.reduceEqDiff, Nat.reduceAdd, Nat.reduceMul, Nat.reduceLT, Nat.reduceLeDiff, Int.reduceToNat]
                refine hNv _ (VWp.keep [2] [] ?_); simp only [go_sem, Int.reduceEq, Int.reduceLT, Nat.reduceEqDiff, Nat.reduceAdd, Nat.reduceMul, Nat.reduceLT, Nat.reduceLeDiff, Int.reduceToNat]
                refine vwp_ret ?_
                simp only [hno, go_sem, Int.reduceEq, Int.reduceLT, Nat.reduceEqDiff, Nat.reduceAdd, Nat.reduceMul, Nat.reduceLT, Nat.reduceLeDiff, Int.reduceToNat]
                exact LeV.refl _
        · rintro _ ⟨hv, hor⟩
          rw [hv, hor, Bool.true_and, Bool.true_and] at hu1
          refine vwp_seq_k fun Nw hNw => vreg tt_ok hF rfl ?_; simp only [go_sem, Int.reduceEq, Int.reduceLT, Nat.reduceEqDiff, Nat.reduceAdd, Nat.reduceMul, Nat.reduceLT, Nat.reduceLeDiff, Int.reduceToNat]
          refine hNw _ (VWp.keep [1,3,5,6,7] [1,6] ?_); simp only [go_sem, Int.reduceEq, Int.reduceLT, Nat.reduceEqDiff, Nat.reduceAdd, Nat.reduceMul, Nat.reduceLT, Nat.reduceLeDiff, Int.reduceToNat]
          refine vwp_block (vloop (fun q : Nat => [(1, .ptr 1 0), (3, .int .i64 (sumT c.ps)), (5, .int .i64 (k : Int)), (6, .ptr 6 0), (7, .int .i64 (q : Int))])
            (fun q => [(1, .box 39 [.sl 5 (c.us.map uniC), .int .i64 c.store, .sl 2 (c.ps.map parC)]), (6, .box 58 [.int .i64 c.us[k].addr, .int .i64 c.us[k].kind, .str c.us[k].ser, .int .i64 c.us[k].cyl, .int .i64 c.us[k].head])]) (fun q => q ≤ k ∧ ∀ i (hi : i < q) (h : i < c.us.length), ¬ (c.us[i].ser ≠ [] ∧ c.us[i].ser = c.us[k].ser)) (fun q => k - q) 0 ⟨Nat.zero_le _, fun i h => absurd h (by omega)⟩ (by simp only [go_sem, Int.reduceEq, Int.reduceLT, Nat.reduceEqDiff, Nat.reduceAdd, Nat.reduceMul, Nat.reduceLT, Nat.reduceLeDiff, Int.reduceToNat]; try rfl) ?_)
          rintro q ⟨hq, hnone⟩
          refine vwp_seq_k fun Nx hNx => ?_
          refine vwp_seq_k fun Ny hNy => vreg tt_ok hF rfl ?_; simp only [go_sem, Int.reduceEq, Int.reduceLT, Nat.reduceEqDiff, Nat.reduceAdd, Nat.reduceMul, Nat.reduceLT, Nat.reduceLeDiff, Int.reduceToNat]
          refine hNy _ (VWp.keep [1,3,5,6,7,85] [1,6] ?_); simp only [go_sem, Int.reduceEq, Int.reduceLT, Nat.reduceEqDiff, Nat.reduceAdd, Nat.reduceMul, Nat.reduceLT, Nat.reduceLeDiff, Int.reduceToNat]
          refine vif rfl ⟨fun ht => ?_, fun hf => ?_⟩
          · have hlt2 : q < k := by have := of_decide_eq_true ht; omega
            have hgetq := uni_row (us := c.us) (k := q) (by omega)
            refine vwp_skip (hNx _ ?_)
            refine vwp_seq_k fun Nz hNz => ?_
            refine vwp_block ?_
            rcases hse : decide (c.us[k].ser = []) with _ | _
            · rcases hsq : decide ((c.us[q]'(by omega)).ser = c.us[k].ser) with _ | _
              · refine vwp_seq_k fun Naa hNaa => vregd tt_ok mixed hF rfl (by kernel_rfl) (by kernel_rfl) ?_; simp only [hse, List.length_map, go_sem, Int.reduceEq, Int.reduceLT, Nat.reduceEqDiff, Nat.reduceAdd, Nat.reduceMul, Nat.reduceLT, Nat.reduceLeDiff, Int.reduceToNat]
                refine ⟨⟨by omega, by omega⟩, by first | (rw [hgetq]; exact (by decide : 2 < 5)) | (rw [Int.toNat_natCast, hgetq]; exact (by decide : 2 < 5)), ?_⟩
                simp only [hgetq, Int.toNat_natCast, hsq, go_sem, Int.reduceEq, Int.reduceLT, Nat.reduceEqDiff, Nat.reduceAdd, Nat.reduceMul, Nat.reduceLT, Nat.reduceLeDiff, Int.reduceToNat]
                refine hNaa _ (VWp.keep [1,3,5,6,7,101] [1,6] ?_); simp only [go_sem, Int.reduceEq, Int.reduceLT, Nat.reduceEqDiff, Nat.reduceAdd, Nat.reduceMul, Nat.reduceLT, Nat.reduceLeDiff, Int.reduceToNat]
                refine vif rfl ⟨(fun ht => by first | cases ht | (rw [hsq] at ht; cases ht)), fun _ => ?_⟩
                refine vwp_skip (hNz _ ?_)
                refine vreg tt_ok hF rfl ?_; simp only [go_sem, Int.reduceEq, Int.reduceLT, Nat.reduceEqDiff, Nat.reduceAdd, Nat.reduceMul, Nat.reduceLT, Nat.reduceLeDiff, Int.reduceToNat]
                rw [wrap_i64 (by omega) (by omega)]
                refine ⟨q + 1, ⟨by omega, fun i hi h => ?_⟩, by omega, by simp⟩
                rcases Nat.eq_or_lt_of_le (Nat.le_of_lt_succ hi) with z | z
                · subst z; exact fun q2 => of_decide_eq_false hsq q2.2
                · exact hnone i z h
              · have hno : cfgT c = false := hbad (by
                  rw [hu1, Bool.not_eq_false', List.any_eq_true]
                  have e1 := of_decide_eq_true hsq
                  have e2 := of_decide_eq_false hse
                  exact ⟨c.us[q]'(by omega), List.mem_iff_getElem.2 ⟨q, by rw [List.length_take]; omega, by rw [List.getElem_take]⟩, by rw [decide_eq_true e1, decide_eq_false (by rw [e1]; exact e2)]; rfl⟩)
                refine vwp_seq_k fun Naa hNaa => vregd tt_ok mixed hF rfl (by kernel_rfl) (by kernel_rfl) ?_; simp only [hse, List.length_map, go_sem, Int.reduceEq, Int.reduceLT, Nat.reduceEqDiff, Nat.reduceAdd, Nat.reduceMul, Nat.reduceLT, Nat.reduceLeDiff, Int.reduceToNat]
                refine ⟨⟨by omega, by omega⟩, by first | (rw [hgetq]; exact (by decide : 2 < 5)) | (rw [Int.toNat_natCast, hgetq]; exact (by decide : 2 < 5)), ?_⟩
                simp only [hgetq, Int.toNat_natCast, hsq, go_sem, Int.reduceEq, Int.reduceLT, Nat.reduceEqDiff, Nat.reduceAdd, Nat.reduceMul, Nat.reduceLT, Nat.reduceLeDiff, Int.reduceToNat]
                refine hNaa _ (VWp.keep [1,3,5,6,7,101] [1,6] ?_); simp only [go_sem, Int.reduceEq, Int.reduceLT, Nat.reduceEqDiff, Nat.reduceAdd, Nat.reduceMul, Nat.reduceLT, Nat.reduceLeDiff, Int.reduceToNat]
                refine vif rfl ⟨fun _ => ?_, (fun hf => by first | cases hf | (rw [hsq] at hf; cases hf))⟩
                refine vwp_seq_k fun Nab hNab => vreg tt_ok hF rfl ?_; simp only [go_sem, Int.reduceEq, Int.reduceLT, Nat.reduceEqDiff, Nat.reduceAdd, Nat.reduceMul, Nat.reduceLT, Nat.reduceLeDiff, Int.reduceToNat]
                refine hNab _ (VWp.keep [2] [] ?_); simp only [go_sem, Int.reduceEq, Int.reduceLT, Nat.reduceEqDiff, Nat.reduceAdd, Nat.reduceMul, Nat.reduceLT, Nat.reduceLeDiff, Int.reduceToNat]
                refine vwp_ret ?_
                simp only [hno, go_sem, Int.reduceEq, Int.reduceLT, Nat.reduceEqDiff, Nat.reduceAdd, Nat.reduceMul, Nat.reduceLT, Nat.reduceLeDiff, Int.reduceToNat]
                exact LeV.refl _
            · refine vwp_seq_k fun Naa hNaa => vregd tt_ok mixed hF rfl (by kernel_rfl) (by kernel_rfl) ?_; simp only [hse, go_sem, Int.reduceEq, Int.reduceLT, Nat.reduceEqDiff, Nat.reduceAdd, Nat.reduceMul, Nat.reduceLT, Nat.reduceLeDiff, Int.reduceToNat]
              refine hNaa _ (VWp.keep [1,3,5,6,7,101] [1,6] ?_); simp only [go_sem, Int.reduceEq, Int.reduceLT, Nat.reduceEqDiff, Nat.reduceAdd, Nat.reduceMul, Nat.reduceLT, Nat.reduceLeDiff, Int.reduceToNat]
              refine vif rfl ⟨(fun ht => by first | cases ht | (rw [hse] at ht; cases ht)), fun _ => ?_⟩
              refine vwp_skip (hNz _ ?_)
              refine vreg tt_ok hF rfl ?_; simp only [go_sem, Int.reduceEq, Int.reduceLT, Nat.reduceEqDiff, Nat.reduceAdd, Nat.reduceMul, Nat.reduceLT, Nat.reduceLeDiff, Int.reduceToNat]
              rw [wrap_i64 (by omega) (by omega)]
              refine ⟨q + 1, ⟨by omega, fun i hi h => ?_⟩, by omega, by simp⟩
              have e2 := of_decide_eq_true hse
              rcases Nat.eq_or_lt_of_le (Nat.le_of_lt_succ hi) with z | z
              · subst z; exact fun q2 => q2.1 (q2.2.trans e2)
              · exact hnone i z h
          · have hqe : q = k := by have := of_decide_eq_false hf; omega
            subst hqe
            have hok : unit1T c.us q = true := by
              rw [hu1, Bool.not_eq_true', List.any_eq_false]
              intro x hx
              obtain ⟨i, hi, rfl⟩ := List.getElem_of_mem hx
              rw [List.length_take] at hi
              have := hnone i (by omega) (by omega)
              rw [List.getElem_take]
              simp only [Bool.and_eq_true, Bool.not_eq_true', decide_eq_false_iff_not, decide_eq_true_eq]
              exact this
            refine vwp_exit ?_
            simp only [go_sem, Int.reduceEq, Int.reduceLT, Nat.reduceEqDiff, Nat.reduceAdd, Nat.reduceMul, Nat.reduceLT, Nat.reduceLeDiff, Int.reduceToNat]
            refine hNr _ (VWp.keep [1,3,5] [1] ?_); simp only [go_sem, Int.reduceEq, Int.reduceLT, Nat.reduceEqDiff, Nat.reduceAdd, Nat.reduceMul, Nat.reduceLT, Nat.reduceLeDiff, Int.reduceToNat]
            refine vreg tt_ok hF rfl ?_; simp only [go_sem, Int.reduceEq, Int.reduceLT, Nat.reduceEqDiff, Nat.reduceAdd, Nat.reduceMul, Nat.reduceLT, Nat.reduceLeDiff, Int.reduceToNat]
            rw [wrap_i64 (by omega) (by omega)]
            refine ⟨q + 1, ⟨by omega, fun j hj => ?_⟩, by omega, by simp⟩
            rcases Nat.eq_or_lt_of_le (Nat.le_of_lt_succ hj) with z | z
            · subst z; exact hok
            · exact hall2 j z
      · have hke : k = c.us.length := by have := of_decide_eq_false hf; omega
        subst hke
        have hua : unitsT c.us = true := List.all_eq_true.2 fun j hj => hall2 j (List.mem_range.1 hj)
        rw [hua, Bool.true_and] at hcf
        have hle : decide (sumT c.ps ≤ c.store) = cfgT c := by
          rw [hcf]
          rcases Int.lt_or_le c.store (sumT c.ps) with q | q
          · rw [decide_eq_true q, decide_eq_false (by omega)]; rfl
          · rw [decide_eq_true q, decide_eq_false (by omega)]; rfl
        refine vwp_exit ?_
        simp only [go_sem, Int.reduceEq, Int.reduceLT, Nat.reduceEqDiff, Nat.reduceAdd, Nat.reduceMul, Nat.reduceLT, Nat.reduceLeDiff, Int.reduceToNat]
        refine hNn _ (VWp.keepR [1,3] [1] tt_ok hF rfl fun Nac hNac => ?_); simp only [go_sem, Int.reduceEq, Int.reduceLT, Nat.reduceEqDiff, Nat.reduceAdd, Nat.reduceMul, Nat.reduceLT, Nat.reduceLeDiff, Int.reduceToNat]
        refine hNac _ (VWp.keep [2] [] ?_); simp only [go_sem, Int.reduceEq, Int.reduceLT, Nat.reduceEqDiff, Nat.reduceAdd, Nat.reduceMul, Nat.reduceLT, Nat.reduceLeDiff, Int.reduceToNat]
        refine vwp_ret ?_
        simp only [hle, go_sem, Int.reduceEq, Int.reduceLT, Nat.reduceEqDiff, Nat.reduceAdd, Nat.reduceMul, Nat.reduceLT, Nat.reduceLeDiff, Int.reduceToNat]
        exact LeV.refl _
end Go.Proofs.YtedbbinlcdgkoaaGreatDoor

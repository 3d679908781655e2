import Derived.Outline
import Derived.Test.YtedbbinlcdgkoaaGreatDoorZU
/- Layer 19: ConfigChecks. -/
-- FUSE
-- LESS
namespace Go.Proofs.YtedbbinlcdgkoaaGreatDoor
open Go.RowKit Go.Lib
set_option linter.unusedVariables false
set_option linter.unusedSimpArgs false
theorem uni_rows (us : List UniT) : (∀ r ∈ us.map uniC, r.length = 5) ∧ cleanR (us.map uniC) := by
  constructor <;>
  · intro r hr
    obtain ⟨u, _, rfl⟩ := List.mem_map.1 hr
    rfl
theorem par_rows (ps : List ParT) : (∀ r ∈ ps.map parC, r.length = 2) ∧ cleanR (ps.map parC) := by
  constructor <;>
  · intro r hr
    obtain ⟨u, _, rfl⟩ := List.mem_map.1 hr
    rfl
theorem unit_serY {u : UniT} (h : unitT u = true) : u.ser.length ≤ 6 := by
  unfold unitT at h
  rw [Bool.and_eq_true] at h
  have h2 := h.2
  have hp : plainT u.ser 6 = true → u.ser.length ≤ 6 := fun q => by
    unfold plainT at q
    simp only [Bool.and_eq_true, decide_eq_true_eq] at q
    omega
  split at h2
  · rw [Bool.and_eq_true] at h2
    have := of_decide_eq_true h2.1
    rw [this]; simp
  · split at h2
    · simp only [Bool.and_eq_true] at h2
      exact hp (by first | exact h2.1 | exact h2.1.1)
    · split at h2
      · simp only [Bool.and_eq_true] at h2
        exact hp (by first | exact h2.1 | exact h2.1.1 | exact h2.1.1.1 | exact h2.1.1.1.1 | exact h2.1.1.1.1.1)
      · cases h2
theorem spU_ser {q : Nat} {us : List UniT} {p : Nat} {by0 : Int} (h : ∀ u ∈ us, u.ser.length ≤ 999999) : ∀ u ∈ spU q us p by0, u.ser.length ≤ 1000000 := by
  have hg : ∀ j, (us.getD j u0).ser.length ≤ 999999 := fun j => by
    by_cases hj : j < us.length
    · rw [List.getD_eq_getElem?_getD, List.getElem?_eq_getElem hj]; exact h _ (List.getElem_mem hj)
    · rw [List.getD_eq_getElem?_getD, List.getElem?_eq_none (by omega)]; decide
  have hp := hg p
  have h0 := hg 0
  have hset : ∀ x : UniT, x.ser.length ≤ 1000000 → ∀ u ∈ us.set p x, u.ser.length ≤ 1000000 := fun x hx u hu => by
    rcases List.mem_or_eq_of_mem_set hu with q | q
    · have := h u q; omega
    · rw [q]; exact hx
  unfold spU
  repeat' split
  all_goals first
    | exact fun u hu => by have := h u hu; omega
    | (refine hset _ ?_; (try simp only [List.length_append, List.length_cons, List.length_nil]); omega)
theorem spoil_spec (c : CfgT) (n : Nat) (hn : n < 256) (by0 : Int) (hcl : ∀ p ∈ c.ps, p.cls.length ≤ 1000000) (hsr : ∀ u ∈ c.us, u.ser.length ≤ 999999) (h1 : c.us.length ≤ 16) (h2 : c.ps.length ≤ 4) (hp : c.ps ≠ []) :
    ∃ d : CfgT, (d.us.length ≤ 1000000 ∧ d.ps.length ≤ 1000000 ∧ ∀ u ∈ d.us, u.ser.length ≤ 1000000) ∧ Spec Tryz.prog 12 [.agg (cfgC c), .int .u8 n, .int .i64 by0] (.agg (cfgC d)) := by
  by_cases h4 : n % 12 = 4
  · refine ⟨_, ⟨?_, ?_, ?_⟩, spoil_four c n hn by0 h1 h2 hp h4⟩
    · show c.us.length ≤ _; omega
    · show (c.ps ++ [_]).length ≤ _; rw [List.length_append, List.length_cons, List.length_nil]; omega
    · intro u hu
      have := hsr u hu; omega
  have hs6 : ∀ u ∈ c.us, u.ser.length ≤ 1000000 := fun u hu => by have := hsr u hu; omega
  by_cases hu : c.us = []
  · have h := spoil_hs1 c n hn by0 hcl h2 hu hp h4
    refine ⟨⟨[], (spP (n % 12) c.store c.ps (n / 16 % c.ps.length) by0).1, (spP (n % 12) c.store c.ps (n / 16 % c.ps.length) by0).2⟩, ⟨by simp, by show List.length (spP _ _ _ _ _).2 ≤ _; rw [spP_len]; omega, fun u hu => by cases hu⟩, ?_⟩
    obtain ⟨q1, q2⟩ := par_rows (spP (n % 12) c.store c.ps (n / 16 % c.ps.length) by0).2
    refine SpecB.cold1 (b := 500102) (E2 := 65) (rb := (spP (n % 12) c.store c.ps (n / 16 % c.ps.length) by0).2.map parC) rfl q1 q2 (par_flat _).1 ?_
    rw [List.length_map, spP_len]
    exact h
  · have h := spoil_hs c n hn by0 hcl hs6 h1 h2 hu hp h4
    refine ⟨⟨spU (n % 12) c.us (n / 16 % c.us.length) by0, (spP (n % 12) c.store c.ps (n / 16 % c.ps.length) by0).1, (spP (n % 12) c.store c.ps (n / 16 % c.ps.length) by0).2⟩, ⟨by show List.length (spU _ _ _ _) ≤ _; rw [spU_len]; omega, by show List.length (spP _ _ _ _ _).2 ≤ _; rw [spP_len]; omega, spU_ser hsr⟩, ?_⟩
    obtain ⟨q1, q2⟩ := par_rows (spP (n % 12) c.store c.ps (n / 16 % c.ps.length) by0).2
    obtain ⟨q3, q4⟩ := uni_rows (spU (n % 12) c.us (n / 16 % c.us.length) by0)
    refine SpecB.cold (a := 500101) (b := 500102) (E := 58) (E2 := 65) (ra := (spU (n % 12) c.us (n / 16 % c.us.length) by0).map uniC) (rb := (spP (n % 12) c.store c.ps (n / 16 % c.ps.length) by0).2.map parC) (by decide) rfl q3 q1 q4 q2 (uni_flat _).1 (par_flat _).1 ?_
    rw [List.length_map, List.length_map, spP_len, spU_len]
    exact h
set_option maxHeartbeats 8000000 in
set_option maxRecDepth 4000 in
theorem ConfigChecks_spec (c0 : CfgT) (st : Nat) (hst : st < 256) (ps : List UInt8) (us : List UniT) (n : Nat) (hn : n < 256) (by0 : Int) : Spec Tryz.prog 3 [.agg (cfgC c0), .agg (seedC st ps us), .int .u8 n, .int .i64 by0] (.bool true) := by
  have hmake := Make_spec st hst ps us
  obtain ⟨c, hc⟩ : ∃ c, makeT st ps us = c := ⟨_, rfl⟩
  have hval := make_valid st ps us
  rw [hc] at hmake hval
  have hv := val_of hval
  have hser : ∀ u ∈ c.us, u.ser.length ≤ 999999 := fun u hu => by have := unit_serY (hv.u u hu); omega
  have hcls : ∀ p ∈ c.ps, p.cls.length ≤ 1000000 := fun p hp => by
    have := hv.p p hp
    unfold partT at this
    rw [Bool.and_eq_true, Bool.and_eq_true] at this
    have := plain_len this.1.2; omega
  have hpne : c.ps ≠ [] := fun e => by have := hv.p1; rw [e] at this; cases this
  obtain ⟨d1, ⟨l1, l2, l3⟩, hs1⟩ := spoil_spec c n hn by0 hcls hser hv.n hv.p4 hpne
  obtain ⟨d2, ⟨m1, m2, m3⟩, hs2⟩ := spoil_spec c n hn (IntKind.i64.wrap (by0.tmod 5 - 2)) hcls hser hv.n hv.p4 hpne
  have hd1 := checks_spec d1 l1 l2 l3
  have hd2 := checks_spec d2 m1 m2 m3
  have hc2 := checks_spec c (by have := hv.n; omega) (by have := hv.p4; omega) (fun u hu => by have := hser u hu; omega)
  have hfew := few_spec c0
  have hc1 := checks_spec (fewT c0) (by unfold fewT; simp only [List.length_map, List.length_take]; omega) (by unfold fewT; simp only [List.length_map, List.length_take]; omega) (fun u hu => by
    unfold fewT at hu
    obtain ⟨v, _, rfl⟩ := List.mem_map.1 hu
    unfold cutU
    simp only [List.length_take]; omega)
  unfold cfgC at hmake hfew hs1 hs2 hd1 hd2 hc1 hc2 ⊢
  unfold seedC at hmake ⊢
  refine spec_of tt_ok Tryz.func3 rfl (by decide) Tryz.ntmps3 (congrArg Array.toList Tryz.results3) (by simp) (by decide) rfl rfl (fun F hF => ?_)
  refine vwp_seq_k fun Na hNa => vreg tt_ok hF rfl ?_; simp only [go_sem, Int.reduceEq, Int.reduceLT, Nat.reduceEqDiff, Nat.reduceAdd, Nat.reduceMul, Nat.reduceLT, Nat.reduceLeDiff, Int.reduceToNat]
  refine hNa _ (VWp.keepR [2,3,4,5] [4,5] tt_ok hF rfl fun Nb hNb => ?_); simp only [go_sem, Int.reduceEq, Int.reduceLT, Nat.reduceEqDiff, Nat.reduceAdd, Nat.reduceMul, Nat.reduceLT, Nat.reduceLeDiff, Int.reduceToNat]
  refine .inl ⟨_, hmake, ?_⟩; try simp only [go_sem, Int.reduceEq, Int.reduceLT, Nat.reduceEqDiff, Nat.reduceAdd, Nat.reduceMul, Nat.reduceLT, Nat.reduceLeDiff, Int.reduceToNat]
  refine hNb _ (VWp.keepR [2,3,4,9] [4,9] tt_ok hF rfl fun Nc hNc => ?_); simp only [go_sem, Int.reduceEq, Int.reduceLT, Nat.reduceEqDiff, Nat.reduceAdd, Nat.reduceMul, Nat.reduceLT, Nat.reduceLeDiff, Int.reduceToNat]
  refine .inl ⟨_, hfew, ?_⟩; try simp only [go_sem, Int.reduceEq, Int.reduceLT, Nat.reduceEqDiff, Nat.reduceAdd, Nat.reduceMul, Nat.reduceLT, Nat.reduceLeDiff, Int.reduceToNat]
  refine .inl ⟨_, hc1, ?_⟩; try simp only [go_sem, Int.reduceEq, Int.reduceLT, Nat.reduceEqDiff, Nat.reduceAdd, Nat.reduceMul, Nat.reduceLT, Nat.reduceLeDiff, Int.reduceToNat]
  refine .inl ⟨_, hc2, ?_⟩; try simp only [go_sem, Int.reduceEq, Int.reduceLT, Nat.reduceEqDiff, Nat.reduceAdd, Nat.reduceMul, Nat.reduceLT, Nat.reduceLeDiff, Int.reduceToNat]
  refine .inl ⟨_, hs1, ?_⟩; try simp only [go_sem, Int.reduceEq, Int.reduceLT, Nat.reduceEqDiff, Nat.reduceAdd, Nat.reduceMul, Nat.reduceLT, Nat.reduceLeDiff, Int.reduceToNat]
  refine .inl ⟨_, hd1, ?_⟩; try simp only [go_sem, Int.reduceEq, Int.reduceLT, Nat.reduceEqDiff, Nat.reduceAdd, Nat.reduceMul, Nat.reduceLT, Nat.reduceLeDiff, Int.reduceToNat]
  refine .inl ⟨_, hs2, ?_⟩; try simp only [go_sem, Int.reduceEq, Int.reduceLT, Nat.reduceEqDiff, Nat.reduceAdd, Nat.reduceMul, Nat.reduceLT, Nat.reduceLeDiff, Int.reduceToNat]
  refine .inl ⟨_, hd2, ?_⟩; try simp only [go_sem, Int.reduceEq, Int.reduceLT, Nat.reduceEqDiff, Nat.reduceAdd, Nat.reduceMul, Nat.reduceLT, Nat.reduceLeDiff, Int.reduceToNat]
  refine .inl ⟨_, works_spec, ?_⟩; try simp only [go_sem, Int.reduceEq, Int.reduceLT, Nat.reduceEqDiff, Nat.reduceAdd, Nat.reduceMul, Nat.reduceLT, Nat.reduceLeDiff, Int.reduceToNat]
  refine hNc _ (VWp.keep [8] [] ?_); simp only [go_sem, Int.reduceEq, Int.reduceLT, Nat.reduceEqDiff, Nat.reduceAdd, Nat.reduceMul, Nat.reduceLT, Nat.reduceLeDiff, Int.reduceToNat]
  (refine vwp_ret ?_; simp only [go_sem, Int.reduceEq, Int.reduceLT, Nat.reduceEqDiff, Nat.reduceAdd, Nat.reduceMul, Nat.reduceLT, Nat.reduceLeDiff, Int.reduceToNat]; first | exact LeV.refl _ | exact LeV.of_eq (by simp))
end Go.Proofs.YtedbbinlcdgkoaaGreatDoor

import Derived.Outline
import Derived.Test.YtjedikaidbobdaaGreatDoorUX
/- Layer 26: a file that is put on a tape leaves those ahead of it; what lies behind has no influence. -/
-- SIMP: beq_self_eq_true, Bool.and_self
namespace Go.Proofs.YtjedikaidbobdaaGreatDoor
open Go.RowKit
open Go.Lib (decDigits)
set_option linter.unusedVariables false
set_option linter.unusedSimpArgs false
theorem wrtE_ok {serial : Tb} {l : List FilT} (h : (wrtE serial l).2 = 0) : serT serial = true ∧ errB 0 l = 0 ∧ 1 + (allB 0 l).length < 4096 ∧ wrtE serial l = (tapT serial l, 0) := by
  unfold wrtE at h ⊢
  by_cases z1 : serT serial = true
  · rw [if_pos z1] at h ⊢
    by_cases z2 : errB 0 l = 0
    · rw [if_pos z2] at h ⊢
      by_cases z3 : 1 + (allB 0 l).length < 4096
      · rw [if_pos z3]; exact ⟨z1, z2, z3, rfl⟩
      · rw [if_neg z3] at h; simp at h
    · rw [if_neg z2] at h; exact absurd h z2
  · rw [if_neg z1] at h; simp at h
theorem wrtE_bad {serial : Tb} {l : List FilT} (h : (wrtE serial l).2 ≠ 0) : (wrtE serial l).1 = [] := by
  unfold wrtE at h ⊢
  split
  · split
    · split
      · rename_i z1 z2 z3; rw [if_pos z1, if_pos z2, if_pos z3] at h; exact absurd rfl h
      · rfl
    · rfl
  · rfl
theorem rem_pos (n : Int) (L : Nat) (hL : L < 1000000) : ∃ m : Nat, m ≤ L ∧ ¬ IntKind.u64.wrap (IntKind.i64.wrap ((L : Int) + 1)) = 0 ∧ IntKind.i64.wrap ((IntKind.u64.wrap n).tmod (IntKind.u64.wrap (IntKind.i64.wrap ((L : Int) + 1)))) = (m : Int) := by
  have e1 : IntKind.u64.wrap (IntKind.i64.wrap ((L : Int) + 1)) = (L : Int) + 1 := by rw [wrap_i64 (by omega) (by omega), wrap_u64]; omega
  have e2 : 0 ≤ IntKind.u64.wrap n := by rw [wrap_u64]; omega
  rw [e1, Int.tmod_eq_emod_of_nonneg e2]
  have h1 : 0 ≤ IntKind.u64.wrap n % ((L : Int) + 1) := Int.emod_nonneg _ (by omega)
  have h2 : IntKind.u64.wrap n % ((L : Int) + 1) < (L : Int) + 1 := Int.emod_lt_of_pos _ (by omega)
  obtain ⟨m, hm⟩ := Int.eq_ofNat_of_zero_le h1
  rw [hm] at h2 ⊢
  exact ⟨m, by omega, by omega, wrap_i64 (by omega) (by omega)⟩
theorem Put_tap (serial : Tb) (l : List FilT) (f : FilT) (hs : serT serial = true) (he : errB 0 l = 0) (hrec : ∀ f ∈ l, f.recs.length ≤ 4096) (hB : (tapT serial l).length ≤ 4096) (hl : l.length < 4000)
    (hfr : f.recs.length ≤ 4096) (hfn : f.name.length ≤ 1000000) (n : Nat) (hn : n ≤ l.length) :
    Spec Tryz.prog 20 [.sl 3 ((tapT serial l).map tbC), .int .i64 (n : Int), filV f] (.tup [.sl 3 ((wrtE serial (l.take n ++ [f])).1.map tbC), .int .i64 (wrtE serial (l.take n ++ [f])).2]) := by
  rw [tap_take serial l n] at hB ⊢
  exact Put_R serial (l.take n) (allB (min n l.length) (l.drop n) ++ [mrkT]) f hs (errB_take he n) (fun f hf => hrec f (List.mem_of_mem_take hf)) (by omega) (by rw [List.length_take]; omega) hfr hfn n (by rw [List.length_take]; omega)
theorem pos_len (serial : Tb) (l : List FilT) (m : Nat) : posT l m = (tapR serial (l.take m) []).length := by
  unfold posT tapR; simp; omega
theorem cut_at (serial : Tb) (l : List FilT) (m : Nat) (rest : List TbT) : ((tapR serial (l.take m) rest).map tbC).take (posT l m) = (tapR serial (l.take m) []).map tbC := by
  have e : tapR serial (l.take m) rest = tapR serial (l.take m) [] ++ rest := by unfold tapR; simp
  rw [pos_len serial, e, List.map_append, ← List.length_map (f := tbC), List.take_left]
theorem tap_snoc (serial : Tb) (l : List FilT) (f : FilT) : tapT serial (l ++ [f]) = tapR serial l ((bksE l.length f).1 ++ [mrkT]) := by
  unfold tapT tapR
  rw [allB_app, Nat.zero_add]
  simp [allB]
def t1S : Tb := [84, 49]
set_option maxHeartbeats 16000000 in
set_option maxRecDepth 4000 in
theorem LabelKeeps_spec (l : List FilT) (n : Int) (f : FilT) : Spec Tryz.prog 6 [.sl 10 (l.map filC), .int .i64 n, filV f] (.bool true) := by
  have hbig := Big_spec l
  have hbf := Big_spec [f]
  simp only [List.map_cons, List.map_nil] at hbf
  unfold filV
  simp only [filC] at hbf ⊢
  by_cases cb : bigT l = true ∨ bigT [f] = true
  · refine spec_of tt_ok Tryz.func6 rfl (by decide) Tryz.ntmps6 (congrArg Array.toList Tryz.results6) (by simp) (by decide) rfl rfl (fun F hF => ?_)
    refine vwp_seq_k fun Na hNa => vreg tt_ok hF rfl ?_; simp only [go_sem, Int.reduceEq, Int.reduceNe, Int.reduceLT, Int.reduceLE, Nat.reduceEqDiff, Nat.reduceAdd, Nat.reduceMul, Nat.reduceLT, Nat.reduceLeDiff, Nat.reduceSub, reduceCtorEq, reduceIte, Int.reduceToNat, beq_self_eq_true, Bool.and_self]
    refine hNa _ (VWp.keep [0,1,5] [5] ?_); simp only [go_sem, Int.reduceEq, Int.reduceNe, Int.reduceLT, Int.reduceLE, Nat.reduceEqDiff, Nat.reduceAdd, Nat.reduceMul, Nat.reduceLT, Nat.reduceLeDiff, Nat.reduceSub, reduceCtorEq, reduceIte, Int.reduceToNat, beq_self_eq_true, Bool.and_self]
    refine vwp_seq_k fun Nb hNb => ?_
    rcases hq : bigT l with _ | _
    · have hq2 : bigT [f] = true := by rcases cb with h | h; (rw [hq] at h; cases h); exact h
      rw [hq] at hbig
      rw [hq2] at hbf
      refine vwp_seq_k fun Nc hNc => vreg tt_ok hF rfl ?_; simp only [go_sem, Int.reduceEq, Int.reduceNe, Int.reduceLT, Int.reduceLE, Nat.reduceEqDiff, Nat.reduceAdd, Nat.reduceMul, Nat.reduceLT, Nat.reduceLeDiff, Nat.reduceSub, reduceCtorEq, reduceIte, Int.reduceToNat, beq_self_eq_true, Bool.and_self]
      refine .inl ⟨_, hbig, ?_⟩; try simp only [go_sem, Int.reduceEq, Int.reduceNe, Int.reduceLT, Int.reduceLE, Nat.reduceEqDiff, Nat.reduceAdd, Nat.reduceMul, Nat.reduceLT, Nat.reduceLeDiff, Nat.reduceSub, reduceCtorEq, reduceIte, Int.reduceToNat, beq_self_eq_true, Bool.and_self]
      refine .inl ⟨_, hbf, ?_⟩; try simp only [go_sem, Int.reduceEq, Int.reduceNe, Int.reduceLT, Int.reduceLE, Nat.reduceEqDiff, Nat.reduceAdd, Nat.reduceMul, Nat.reduceLT, Nat.reduceLeDiff, Nat.reduceSub, reduceCtorEq, reduceIte, Int.reduceToNat, beq_self_eq_true, Bool.and_self]
      refine hNc _ (VWp.keep [0,1,5,22] [5] ?_); simp only [go_sem, Int.reduceEq, Int.reduceNe, Int.reduceLT, Int.reduceLE, Nat.reduceEqDiff, Nat.reduceAdd, Nat.reduceMul, Nat.reduceLT, Nat.reduceLeDiff, Nat.reduceSub, reduceCtorEq, reduceIte, Int.reduceToNat, beq_self_eq_true, Bool.and_self]
      refine vif rfl ⟨fun ht => ?_, (fun hf => by cases hf)⟩
      refine vwp_seq_k fun Nd hNd => vreg tt_ok hF rfl ?_; simp only [go_sem, Int.reduceEq, Int.reduceNe, Int.reduceLT, Int.reduceLE, Nat.reduceEqDiff, Nat.reduceAdd, Nat.reduceMul, Nat.reduceLT, Nat.reduceLeDiff, Nat.reduceSub, reduceCtorEq, reduceIte, Int.reduceToNat, beq_self_eq_true, Bool.and_self]
      refine hNd _ (VWp.keep [6] [] ?_); simp only [go_sem, Int.reduceEq, Int.reduceNe, Int.reduceLT, Int.reduceLE, Nat.reduceEqDiff, Nat.reduceAdd, Nat.reduceMul, Nat.reduceLT, Nat.reduceLeDiff, Nat.reduceSub, reduceCtorEq, reduceIte, Int.reduceToNat, beq_self_eq_true, Bool.and_self]
      refine vwp_ret ?_
      simp only [go_sem, Int.reduceEq, Int.reduceNe, Int.reduceLT, Int.reduceLE, Nat.reduceEqDiff, Nat.reduceAdd, Nat.reduceMul, Nat.reduceLT, Nat.reduceLeDiff, Nat.reduceSub, reduceCtorEq, reduceIte, Int.reduceToNat, beq_self_eq_true, Bool.and_self]
      exact LeV.refl _
    · rw [hq] at hbig
      refine vwp_seq_k fun Nc hNc => vreg tt_ok hF rfl ?_; simp only [go_sem, Int.reduceEq, Int.reduceNe, Int.reduceLT, Int.reduceLE, Nat.reduceEqDiff, Nat.reduceAdd, Nat.reduceMul, Nat.reduceLT, Nat.reduceLeDiff, Nat.reduceSub, reduceCtorEq, reduceIte, Int.reduceToNat, beq_self_eq_true, Bool.and_self]
      refine .inl ⟨_, hbig, ?_⟩; try simp only [go_sem, Int.reduceEq, Int.reduceNe, Int.reduceLT, Int.reduceLE, Nat.reduceEqDiff, Nat.reduceAdd, Nat.reduceMul, Nat.reduceLT, Nat.reduceLeDiff, Nat.reduceSub, reduceCtorEq, reduceIte, Int.reduceToNat, beq_self_eq_true, Bool.and_self]
      refine hNc _ (VWp.keep [0,1,5,22] [5] ?_); simp only [go_sem, Int.reduceEq, Int.reduceNe, Int.reduceLT, Int.reduceLE, Nat.reduceEqDiff, Nat.reduceAdd, Nat.reduceMul, Nat.reduceLT, Nat.reduceLeDiff, Nat.reduceSub, reduceCtorEq, reduceIte, Int.reduceToNat, beq_self_eq_true, Bool.and_self]
      refine vif rfl ⟨fun ht => ?_, (fun hf => by cases hf)⟩
      refine vwp_seq_k fun Nd hNd => vreg tt_ok hF rfl ?_; simp only [go_sem, Int.reduceEq, Int.reduceNe, Int.reduceLT, Int.reduceLE, Nat.reduceEqDiff, Nat.reduceAdd, Nat.reduceMul, Nat.reduceLT, Nat.reduceLeDiff, Nat.reduceSub, reduceCtorEq, reduceIte, Int.reduceToNat, beq_self_eq_true, Bool.and_self]
      refine hNd _ (VWp.keep [6] [] ?_); simp only [go_sem, Int.reduceEq, Int.reduceNe, Int.reduceLT, Int.reduceLE, Nat.reduceEqDiff, Nat.reduceAdd, Nat.reduceMul, Nat.reduceLT, Nat.reduceLeDiff, Nat.reduceSub, reduceCtorEq, reduceIte, Int.reduceToNat, beq_self_eq_true, Bool.and_self]
      refine vwp_ret ?_
      simp only [go_sem, Int.reduceEq, Int.reduceNe, Int.reduceLT, Int.reduceLE, Nat.reduceEqDiff, Nat.reduceAdd, Nat.reduceMul, Nat.reduceLT, Nat.reduceLeDiff, Nat.reduceSub, reduceCtorEq, reduceIte, Int.reduceToNat, beq_self_eq_true, Bool.and_self]
      exact LeV.refl _
  · have c1 : bigT l = false := by rcases hq : bigT l with _ | _; rfl; exact absurd (.inl hq) cb
    have c2 : bigT [f] = false := by rcases hq : bigT [f] with _ | _; rfl; exact absurd (.inr hq) cb
    obtain ⟨hl8, hfb⟩ := bigT_no c1
    have hf1 := (bigT_no c2).2 f List.mem_cons_self
    rw [c1] at hbig
    rw [c2] at hbf
    have hB : ∀ f ∈ l, FilB f := fun f hf => ⟨by have := (hfb f hf).1; omega, fun r hr => by have := (hfb f hf).2.2 r hr; omega⟩
    have hS : ∀ f ∈ l, FilS f := fun f hf => ⟨by have := (hfb f hf).1; omega, by have := (hfb f hf).2.1; omega⟩
    have hfB : FilB f := ⟨by have := hf1.1; omega, fun r hr => by have := hf1.2.2 r hr; omega⟩
    have hto := to_spec l (by omega) hB
    have htf := to_spec [f] (by simp) (fun g hg => by rw [List.mem_singleton] at hg; rw [hg]; exact hfB)
    have hwk := works_spec
    simp only [List.map_cons, List.map_nil, filC] at htf
    by_cases cw : (wrtE t1S l).2 = 0
    · obtain ⟨z1, z2, z3, z4⟩ := wrtE_ok cw
      have hlen : ((tapT t1S l).map tbC).length = (allB 0 l).length + 2 := by rw [List.length_map]; unfold tapT tapR; simp
      have hwr := Write_B t1S l (by omega) hS z1 z2 z3
      rw [← hlen] at hwr
      change SpecB _ _ _ _ _ [(17, .arr 3 48 ((tapT t1S l).map tbC))] at hwr
      obtain ⟨m, hm, hm0, hme⟩ := rem_pos n l.length (by omega)
      have hst := Start_spec t1S l z1 z2 (fun f hf => (hS f hf).r) (by rw [List.length_map] at hlen; omega) (by omega) m hm
      have hpt := Put_tap t1S l f z1 z2 (fun f hf => (hS f hf).r) (by rw [List.length_map] at hlen; omega) (by omega) (by have := hf1.1; omega) (by have := hf1.2.1; omega) m hm
      have hbad : (wrtE t1S (l.take m ++ [f])).2 ≠ 0 → (wrtE t1S (l.take m ++ [f])).1.map tbC = [] := fun q => by rw [wrtE_bad q]; rfl
      have hok : (wrtE t1S (l.take m ++ [f])).2 = 0 → wrtE t1S (l.take m ++ [f]) = (tapT t1S (l.take m ++ [f]), 0) ∧ Spec Tryz.prog 19 [.sl 3 ((tapT t1S (l.take m ++ [f])).map tbC)] (.tup [.str t1S, .sl 10 ((l.take m ++ [f]).map filC), .int .i64 0]) := fun q => by
        obtain ⟨w1, w2, w3, w4⟩ := wrtE_ok q
        refine ⟨w4, Read_spec t1S _ w1 w2 (fun g hg => ?_) (by unfold tapT tapR; simp at w3 ⊢; omega) (by simp; omega)⟩
        rcases List.mem_append.1 hg with h | h
        · exact (hS g (List.mem_of_mem_take h)).r
        · rw [List.mem_singleton] at h; rw [h]; have := hf1.1; omega
      have hcut : ((tapT t1S l).map tbC).take (posT l m) = (tapR t1S (l.take m) []).map tbC := by rw [tap_take t1S l m]; exact cut_at _ _ _ _
      have hcut2 : ((tapT t1S (l.take m ++ [f])).map tbC).take (posT l m) = (tapR t1S (l.take m) []).map tbC := by rw [tap_snoc]; exact cut_at _ _ _ _
      have hpl : 1 ≤ posT l m ∧ posT l m < ((tapT t1S l).map tbC).length ∧ posT l m ≤ ((tapT t1S (l.take m ++ [f])).map tbC).length := by
        rw [pos_len t1S, tap_snoc, tap_take t1S l m, List.length_map, List.length_map]; unfold tapR; simp
      have hDl : (tapR t1S (l.take m) []).length ≤ 100000 := by rw [← pos_len]; rw [List.length_map] at hlen hpl; omega
      have hsb := SameBlocks_spec (tapR t1S (l.take m) []) hDl
      have hlt : (l.take m).length = m := by rw [List.length_take]; omega
      have hfr1 := from_spec (l.take m) (by omega)
      have hsf1 := SameFiles_spec (l.take m) (by omega) (fun g hg => hB g (List.mem_of_mem_take hg))
      have hfr2 := from_spec [f] (by simp)
      have hsf2 := SameFiles_spec [f] (by simp) (fun g hg => by rw [List.mem_singleton] at hg; rw [hg]; exact hfB)
      have hm1 : ((l.take m ++ [f]).map filC).take m = (l.take m).map filC := by rw [List.map_append, List.take_left' (by rw [List.length_map, hlt])]
      have hm2 : ((l.take m ++ [f]).map filC).drop m = [f].map filC := by rw [List.map_append, List.drop_left' (by rw [List.length_map, hlt])]
      have hm3 : (l.map filC).take m = (l.take m).map filC := by rw [List.map_take]
      have hm4 : ((l.take m ++ [f]).map filC).length = m + 1 := by simp; omega
      generalize (tapR t1S (l.take m) []).map tbC = D at *
      generalize (tapT t1S l).map tbC = T at *
      generalize hat : posT l m = at_ at *
      generalize (l.take m).map filC = M1 at *
      generalize (l.take m ++ [f]).map filC = M at *
      generalize tapT t1S (l.take m ++ [f]) = TU at *
      generalize hW : wrtE t1S (l.take m ++ [f]) = W at *
      obtain ⟨Wb, We⟩ := W
      simp only at hpt hbad hok
      have ea : decide ((at_ : Int) < 1) = false := decide_eq_false (by omega)
      have eb : decide ((T.length : Int) ≤ (at_ : Int)) = false := decide_eq_false (by omega)
      unfold filV at hpt
      simp only [List.map_cons, List.map_nil, filC] at hpt hfr2 hsf2 hm2
      unfold t1S at hwr
      refine spec_of tt_ok Tryz.func6 rfl (by decide) Tryz.ntmps6 (congrArg Array.toList Tryz.results6) (by simp) (by decide) rfl rfl (fun F hF => ?_)
      refine vwp_seq_k fun Na hNa => vreg tt_ok hF rfl ?_; simp only [go_sem, Int.reduceEq, Int.reduceNe, Int.reduceLT, Int.reduceLE, Nat.reduceEqDiff, Nat.reduceAdd, Nat.reduceMul, Nat.reduceLT, Nat.reduceLeDiff, Nat.reduceSub, reduceCtorEq, reduceIte, Int.reduceToNat, beq_self_eq_true, Bool.and_self]
      refine hNa _ (VWp.keep [0,1,5] [5] ?_); simp only [go_sem, Int.reduceEq, Int.reduceNe, Int.reduceLT, Int.reduceLE, Nat.reduceEqDiff, Nat.reduceAdd, Nat.reduceMul, Nat.reduceLT, Nat.reduceLeDiff, Nat.reduceSub, reduceCtorEq, reduceIte, Int.reduceToNat, beq_self_eq_true, Bool.and_self]
      refine vwp_seq_k fun Nb hNb => ?_
      refine vwp_seq_k fun Nc hNc => vreg tt_ok hF rfl ?_; simp only [go_sem, Int.reduceEq, Int.reduceNe, Int.reduceLT, Int.reduceLE, Nat.reduceEqDiff, Nat.reduceAdd, Nat.reduceMul, Nat.reduceLT, Nat.reduceLeDiff, Nat.reduceSub, reduceCtorEq, reduceIte, Int.reduceToNat, beq_self_eq_true, Bool.and_self]
      refine .inl ⟨_, hbig, ?_⟩; try simp only [go_sem, Int.reduceEq, Int.reduceNe, Int.reduceLT, Int.reduceLE, Nat.reduceEqDiff, Nat.reduceAdd, Nat.reduceMul, Nat.reduceLT, Nat.reduceLeDiff, Nat.reduceSub, reduceCtorEq, reduceIte, Int.reduceToNat, beq_self_eq_true, Bool.and_self]
      refine .inl ⟨_, hbf, ?_⟩; try simp only [go_sem, Int.reduceEq, Int.reduceNe, Int.reduceLT, Int.reduceLE, Nat.reduceEqDiff, Nat.reduceAdd, Nat.reduceMul, Nat.reduceLT, Nat.reduceLeDiff, Nat.reduceSub, reduceCtorEq, reduceIte, Int.reduceToNat, beq_self_eq_true, Bool.and_self]
      refine hNc _ (VWp.keep [0,1,5,22] [5] ?_); simp only [go_sem, Int.reduceEq, Int.reduceNe, Int.reduceLT, Int.reduceLE, Nat.reduceEqDiff, Nat.reduceAdd, Nat.reduceMul, Nat.reduceLT, Nat.reduceLeDiff, Nat.reduceSub, reduceCtorEq, reduceIte, Int.reduceToNat, beq_self_eq_true, Bool.and_self]
      refine vif rfl ⟨(fun ht => by cases ht), fun hf => ?_⟩
      refine vwp_skip (hNb _ ?_)
      refine vwp_seq_k fun Ne hNe => vreg tt_ok hF rfl ?_; simp only [go_sem, Int.reduceEq, Int.reduceNe, Int.reduceLT, Int.reduceLE, Nat.reduceEqDiff, Nat.reduceAdd, Nat.reduceMul, Nat.reduceLT, Nat.reduceLeDiff, Nat.reduceSub, reduceCtorEq, reduceIte, Int.reduceToNat, beq_self_eq_true, Bool.and_self]
      refine .inl ⟨_, hto, ?_⟩; try simp only [go_sem, Int.reduceEq, Int.reduceNe, Int.reduceLT, Int.reduceLE, Nat.reduceEqDiff, Nat.reduceAdd, Nat.reduceMul, Nat.reduceLT, Nat.reduceLeDiff, Nat.reduceSub, reduceCtorEq, reduceIte, Int.reduceToNat, beq_self_eq_true, Bool.and_self]
      refine .inr (bxo [(17, 26)] rfl ?_); simp only [go_sem, Int.reduceEq, Int.reduceNe, Int.reduceLT, Int.reduceLE, Nat.reduceEqDiff, Nat.reduceAdd, Nat.reduceMul, Nat.reduceLT, Nat.reduceLeDiff, Nat.reduceSub, reduceCtorEq, reduceIte, Int.reduceToNat, beq_self_eq_true, Bool.and_self]; refine ⟨_, _, hwr, ?_⟩; try simp only [go_sem, Int.reduceEq, Int.reduceNe, Int.reduceLT, Int.reduceLE, Nat.reduceEqDiff, Nat.reduceAdd, Nat.reduceMul, Nat.reduceLT, Nat.reduceLeDiff, Nat.reduceSub, reduceCtorEq, reduceIte, Int.reduceToNat, beq_self_eq_true, Bool.and_self]
      refine hNe _ (VWp.keep [0,1,5,7,8] [5,26] ?_); simp only [go_sem, Int.reduceEq, Int.reduceNe, Int.reduceLT, Int.reduceLE, Nat.reduceEqDiff, Nat.reduceAdd, Nat.reduceMul, Nat.reduceLT, Nat.reduceLeDiff, Nat.reduceSub, reduceCtorEq, reduceIte, Int.reduceToNat, beq_self_eq_true, Bool.and_self]
      refine vwp_seq_k fun Nf hNf => ?_
      refine vwp_seq_k fun Ng hNg => vreg tt_ok hF rfl ?_; simp only [go_sem, Int.reduceEq, Int.reduceNe, Int.reduceLT, Int.reduceLE, Nat.reduceEqDiff, Nat.reduceAdd, Nat.reduceMul, Nat.reduceLT, Nat.reduceLeDiff, Nat.reduceSub, reduceCtorEq, reduceIte, Int.reduceToNat, beq_self_eq_true, Bool.and_self]
      refine hNg _ (VWp.keep [0,1,5,7,30] [5,26] ?_); simp only [go_sem, Int.reduceEq, Int.reduceNe, Int.reduceLT, Int.reduceLE, Nat.reduceEqDiff, Nat.reduceAdd, Nat.reduceMul, Nat.reduceLT, Nat.reduceLeDiff, Nat.reduceSub, reduceCtorEq, reduceIte, Int.reduceToNat, beq_self_eq_true, Bool.and_self]
      refine vif rfl ⟨(fun ht => by cases ht), fun hf => ?_⟩
      refine vwp_skip (hNf _ ?_)
      refine vwp_seq_k fun Ni hNi => vreg tt_ok hF rfl ?_; simp only [go_sem, Int.reduceEq, Int.reduceNe, Int.reduceLT, Int.reduceLE, Nat.reduceEqDiff, Nat.reduceAdd, Nat.reduceMul, Nat.reduceLT, Nat.reduceLeDiff, Nat.reduceSub, reduceCtorEq, reduceIte, Int.reduceToNat, beq_self_eq_true, Bool.and_self]
      refine ⟨hm0, ?_⟩
      rw [hme]
      refine hNi _ (VWp.keepR [0,1,5,7] [5,26] tt_ok hF rfl fun Nj hNj => ?_); simp only [go_sem, Int.reduceEq, Int.reduceNe, Int.reduceLT, Int.reduceLE, Nat.reduceEqDiff, Nat.reduceAdd, Nat.reduceMul, Nat.reduceLT, Nat.reduceLeDiff, Nat.reduceSub, reduceCtorEq, reduceIte, Int.reduceToNat, beq_self_eq_true, Bool.and_self]
      refine .inl ⟨_, hst, ?_⟩; try simp only [go_sem, Int.reduceEq, Int.reduceNe, Int.reduceLT, Int.reduceLE, Nat.reduceEqDiff, Nat.reduceAdd, Nat.reduceMul, Nat.reduceLT, Nat.reduceLeDiff, Nat.reduceSub, reduceCtorEq, reduceIte, Int.reduceToNat, beq_self_eq_true, Bool.and_self]
      refine hNj _ (VWp.keepR [0,1,5,7,9,10] [5,26] tt_ok hF rfl fun Nk hNk => ?_); simp only [go_sem, Int.reduceEq, Int.reduceNe, Int.reduceLT, Int.reduceLE, Nat.reduceEqDiff, Nat.reduceAdd, Nat.reduceMul, Nat.reduceLT, Nat.reduceLeDiff, Nat.reduceSub, reduceCtorEq, reduceIte, Int.reduceToNat, beq_self_eq_true, Bool.and_self]
      refine .inl ⟨_, htf, ?_⟩; try simp only [go_sem, Int.reduceEq, Int.reduceNe, Int.reduceLT, Int.reduceLE, Nat.reduceEqDiff, Nat.reduceAdd, Nat.reduceMul, Nat.reduceLT, Nat.reduceLeDiff, Nat.reduceSub, reduceCtorEq, reduceIte, Int.reduceToNat, beq_self_eq_true, Bool.and_self]
      refine .inl ⟨_, hpt, ?_⟩; try simp only [go_sem, Int.reduceEq, Int.reduceNe, Int.reduceLT, Int.reduceLE, Nat.reduceEqDiff, Nat.reduceAdd, Nat.reduceMul, Nat.reduceLT, Nat.reduceLeDiff, Nat.reduceSub, reduceCtorEq, reduceIte, Int.reduceToNat, beq_self_eq_true, Bool.and_self]
      refine hNk _ (VWp.keep [0,1,5,7,9,10,11,12] [5,26] ?_); simp only [go_sem, Int.reduceEq, Int.reduceNe, Int.reduceLT, Int.reduceLE, Nat.reduceEqDiff, Nat.reduceAdd, Nat.reduceMul, Nat.reduceLT, Nat.reduceLeDiff, Nat.reduceSub, reduceCtorEq, reduceIte, Int.reduceToNat, beq_self_eq_true, Bool.and_self]
      refine vwp_seq_k fun Nl hNl => ?_
      refine vwp_seq_k fun Nm hNm => vreg tt_ok hF rfl ?_; simp only [go_sem, Int.reduceEq, Int.reduceNe, Int.reduceLT, Int.reduceLE, Nat.reduceEqDiff, Nat.reduceAdd, Nat.reduceMul, Nat.reduceLT, Nat.reduceLeDiff, Nat.reduceSub, reduceCtorEq, reduceIte, Int.reduceToNat, beq_self_eq_true, Bool.and_self]
      try simp only [ea, eb, go_sem, Int.reduceEq, Int.reduceNe, Int.reduceLT, Int.reduceLE, Nat.reduceEqDiff, Nat.reduceAdd, Nat.reduceMul, Nat.reduceLT, Nat.reduceLeDiff, Nat.reduceSub, reduceCtorEq, reduceIte, Int.reduceToNat, beq_self_eq_true, Bool.and_self]
      refine hNm _ (VWp.keep [0,1,5,7,9,11,12,73] [5,26] ?_); simp only [go_sem, Int.reduceEq, Int.reduceNe, Int.reduceLT, Int.reduceLE, Nat.reduceEqDiff, Nat.reduceAdd, Nat.reduceMul, Nat.reduceLT, Nat.reduceLeDiff, Nat.reduceSub, reduceCtorEq, reduceIte, Int.reduceToNat, beq_self_eq_true, Bool.and_self]
      refine vif rfl ⟨(fun ht => by cases ht), fun hf => ?_⟩
      refine vwp_skip (hNl _ ?_)
      refine vwp_seq_k fun No hNo => ?_
      refine vwp_seq_k fun Np hNp => vreg tt_ok hF rfl ?_; simp only [go_sem, Int.reduceEq, Int.reduceNe, Int.reduceLT, Int.reduceLE, Nat.reduceEqDiff, Nat.reduceAdd, Nat.reduceMul, Nat.reduceLT, Nat.reduceLeDiff, Nat.reduceSub, reduceCtorEq, reduceIte, Int.reduceToNat, beq_self_eq_true, Bool.and_self]
      refine hNp _ (VWp.keep [0,1,5,7,9,11,75] [5,26] ?_); simp only [go_sem, Int.reduceEq, Int.reduceNe, Int.reduceLT, Int.reduceLE, Nat.reduceEqDiff, Nat.reduceAdd, Nat.reduceMul, Nat.reduceLT, Nat.reduceLeDiff, Nat.reduceSub, reduceCtorEq, reduceIte, Int.reduceToNat, beq_self_eq_true, Bool.and_self]
      refine vif rfl ⟨fun ht => ?_, fun hf => ?_⟩
      · have hne : We ≠ 0 := by simpa using ht
        rw [hbad hne]
        refine vwp_seq_k fun Nq hNq => vreg tt_ok hF rfl ?_; simp only [go_sem, Int.reduceEq, Int.reduceNe, Int.reduceLT, Int.reduceLE, Nat.reduceEqDiff, Nat.reduceAdd, Nat.reduceMul, Nat.reduceLT, Nat.reduceLeDiff, Nat.reduceSub, reduceCtorEq, reduceIte, Int.reduceToNat, beq_self_eq_true, Bool.and_self]
        refine .inl ⟨_, hwk, ?_⟩; try simp only [go_sem, Int.reduceEq, Int.reduceNe, Int.reduceLT, Int.reduceLE, Nat.reduceEqDiff, Nat.reduceAdd, Nat.reduceMul, Nat.reduceLT, Nat.reduceLeDiff, Nat.reduceSub, reduceCtorEq, reduceIte, Int.reduceToNat, beq_self_eq_true, Bool.and_self]
        refine hNq _ (VWp.keep [6] [] ?_); simp only [go_sem, Int.reduceEq, Int.reduceNe, Int.reduceLT, Int.reduceLE, Nat.reduceEqDiff, Nat.reduceAdd, Nat.reduceMul, Nat.reduceLT, Nat.reduceLeDiff, Nat.reduceSub, reduceCtorEq, reduceIte, Int.reduceToNat, beq_self_eq_true, Bool.and_self]
        refine vwp_ret ?_
        simp only [go_sem, Int.reduceEq, Int.reduceNe, Int.reduceLT, Int.reduceLE, Nat.reduceEqDiff, Nat.reduceAdd, Nat.reduceMul, Nat.reduceLT, Nat.reduceLeDiff, Nat.reduceSub, reduceCtorEq, reduceIte, Int.reduceToNat, beq_self_eq_true, Bool.and_self]
        exact LeV.refl _
      · have he0 : We = 0 := by simpa using hf
        obtain ⟨w1, hrd⟩ := hok he0
        injection w1 with w1 w2
        subst w1
        unfold t1S at hrd
        generalize Wb.map tbC = U at *
        have ec : decide ((U.length : Int) < (at_ : Int)) = false := decide_eq_false (by omega)
        have ed : IntKind.i64.wrap ((m : Int) + 1) = ((m + 1 : Nat) : Int) := by rw [wrap_i64 (by omega) (by omega)]; rfl
        refine vwp_skip (hNo _ ?_)
        refine vwp_seq_k fun Nr hNr => vreg tt_ok hF rfl ?_; simp only [go_sem, Int.reduceEq, Int.reduceNe, Int.reduceLT, Int.reduceLE, Nat.reduceEqDiff, Nat.reduceAdd, Nat.reduceMul, Nat.reduceLT, Nat.reduceLeDiff, Nat.reduceSub, reduceCtorEq, reduceIte, Int.reduceToNat, beq_self_eq_true, Bool.and_self]
        refine .inl ⟨_, hrd, ?_⟩; try simp only [go_sem, Int.reduceEq, Int.reduceNe, Int.reduceLT, Int.reduceLE, Nat.reduceEqDiff, Nat.reduceAdd, Nat.reduceMul, Nat.reduceLT, Nat.reduceLeDiff, Nat.reduceSub, reduceCtorEq, reduceIte, Int.reduceToNat, beq_self_eq_true, Bool.and_self]
        refine hNr _ (VWp.keep [0,1,5,7,9,11,13,14,15] [5,26] ?_); simp only [go_sem, Int.reduceEq, Int.reduceNe, Int.reduceLT, Int.reduceLE, Nat.reduceEqDiff, Nat.reduceAdd, Nat.reduceMul, Nat.reduceLT, Nat.reduceLeDiff, Nat.reduceSub, reduceCtorEq, reduceIte, Int.reduceToNat, beq_self_eq_true, Bool.and_self]
        refine vwp_seq_k fun Ns hNs => ?_
        refine vwp_seq_k fun Nt hNt => vreg tt_ok hF rfl ?_; simp only [go_sem, Int.reduceEq, Int.reduceNe, Int.reduceLT, Int.reduceLE, Nat.reduceEqDiff, Nat.reduceAdd, Nat.reduceMul, Nat.reduceLT, Nat.reduceLeDiff, Nat.reduceSub, reduceCtorEq, reduceIte, Int.reduceToNat, beq_self_eq_true, Bool.and_self]
        simp only [hm4, ed, ec, decide_true, Bool.not_true, go_sem, Int.reduceEq, Int.reduceNe, Int.reduceLT, Int.reduceLE, Nat.reduceEqDiff, Nat.reduceAdd, Nat.reduceMul, Nat.reduceLT, Nat.reduceLeDiff, Nat.reduceSub, reduceCtorEq, reduceIte, Int.reduceToNat, beq_self_eq_true, Bool.and_self]
        refine hNt _ (VWp.keep [0,1,5,7,9,11,14,106] [5,26] ?_); simp only [go_sem, Int.reduceEq, Int.reduceNe, Int.reduceLT, Int.reduceLE, Nat.reduceEqDiff, Nat.reduceAdd, Nat.reduceMul, Nat.reduceLT, Nat.reduceLeDiff, Nat.reduceSub, reduceCtorEq, reduceIte, Int.reduceToNat, beq_self_eq_true, Bool.and_self]
        refine vif rfl ⟨(fun ht => by cases ht), fun hf => ?_⟩
        refine vwp_skip (hNs _ ?_)
        refine vwp_seq_k fun Nv hNv => vregd tt_ok mixed hF rfl (by kernel_rfl) (by kernel_rfl) ?_; simp only [go_sem, Int.reduceEq, Int.reduceNe, Int.reduceLT, Int.reduceLE, Nat.reduceEqDiff, Nat.reduceAdd, Nat.reduceMul, Nat.reduceLT, Nat.reduceLeDiff, Nat.reduceSub, reduceCtorEq, reduceIte, Int.reduceToNat, beq_self_eq_true, Bool.and_self]
        refine ⟨⟨by omega, by omega⟩, ?_⟩
        simp only [hm1, hm2, hm3, hcut, hcut2, Int.toNat_natCast, go_sem, Int.reduceEq, Int.reduceNe, Int.reduceLT, Int.reduceLE, Nat.reduceEqDiff, Nat.reduceAdd, Nat.reduceMul, Nat.reduceLT, Nat.reduceLeDiff, Nat.reduceSub, reduceCtorEq, reduceIte, Int.reduceToNat, beq_self_eq_true, Bool.and_self]
        refine .inl ⟨_, hfr1, ?_⟩; try simp only [go_sem, Int.reduceEq, Int.reduceNe, Int.reduceLT, Int.reduceLE, Nat.reduceEqDiff, Nat.reduceAdd, Nat.reduceMul, Nat.reduceLT, Nat.reduceLeDiff, Nat.reduceSub, reduceCtorEq, reduceIte, Int.reduceToNat, beq_self_eq_true, Bool.and_self]
        refine ⟨⟨by omega, by omega⟩, ?_⟩
        try simp only [hm1, hm2, hm3, hcut, hcut2, Int.toNat_natCast, go_sem, Int.reduceEq, Int.reduceNe, Int.reduceLT, Int.reduceLE, Nat.reduceEqDiff, Nat.reduceAdd, Nat.reduceMul, Nat.reduceLT, Nat.reduceLeDiff, Nat.reduceSub, reduceCtorEq, reduceIte, Int.reduceToNat, beq_self_eq_true, Bool.and_self]
        refine .inl ⟨_, hsf1, ?_⟩; try simp only [go_sem, Int.reduceEq, Int.reduceNe, Int.reduceLT, Int.reduceLE, Nat.reduceEqDiff, Nat.reduceAdd, Nat.reduceMul, Nat.reduceLT, Nat.reduceLeDiff, Nat.reduceSub, reduceCtorEq, reduceIte, Int.reduceToNat, beq_self_eq_true, Bool.and_self]
        refine ⟨⟨by omega, by omega, by omega⟩, ?_⟩
        try simp only [List.take_length, hm1, hm2, hm3, hcut, hcut2, Int.toNat_natCast, go_sem, Int.reduceEq, Int.reduceNe, Int.reduceLT, Int.reduceLE, Nat.reduceEqDiff, Nat.reduceAdd, Nat.reduceMul, Nat.reduceLT, Nat.reduceLeDiff, Nat.reduceSub, reduceCtorEq, reduceIte, Int.reduceToNat, beq_self_eq_true, Bool.and_self]
        refine .inl ⟨_, hfr2, ?_⟩; try simp only [go_sem, Int.reduceEq, Int.reduceNe, Int.reduceLT, Int.reduceLE, Nat.reduceEqDiff, Nat.reduceAdd, Nat.reduceMul, Nat.reduceLT, Nat.reduceLeDiff, Nat.reduceSub, reduceCtorEq, reduceIte, Int.reduceToNat, beq_self_eq_true, Bool.and_self]
        refine .inl ⟨_, hsf2, ?_⟩; try simp only [go_sem, Int.reduceEq, Int.reduceNe, Int.reduceLT, Int.reduceLE, Nat.reduceEqDiff, Nat.reduceAdd, Nat.reduceMul, Nat.reduceLT, Nat.reduceLeDiff, Nat.reduceSub, reduceCtorEq, reduceIte, Int.reduceToNat, beq_self_eq_true, Bool.and_self]
        refine ⟨⟨by omega, by omega⟩, ⟨by omega, by omega⟩, ?_⟩
        try simp only [hcut, hcut2, Int.toNat_natCast, go_sem, Int.reduceEq, Int.reduceNe, Int.reduceLT, Int.reduceLE, Nat.reduceEqDiff, Nat.reduceAdd, Nat.reduceMul, Nat.reduceLT, Nat.reduceLeDiff, Nat.reduceSub, reduceCtorEq, reduceIte, Int.reduceToNat, beq_self_eq_true, Bool.and_self]
        refine .inl ⟨_, hsb, ?_⟩; try simp only [go_sem, Int.reduceEq, Int.reduceNe, Int.reduceLT, Int.reduceLE, Nat.reduceEqDiff, Nat.reduceAdd, Nat.reduceMul, Nat.reduceLT, Nat.reduceLeDiff, Nat.reduceSub, reduceCtorEq, reduceIte, Int.reduceToNat, beq_self_eq_true, Bool.and_self]
        refine .inl ⟨_, hwk, ?_⟩; try simp only [go_sem, Int.reduceEq, Int.reduceNe, Int.reduceLT, Int.reduceLE, Nat.reduceEqDiff, Nat.reduceAdd, Nat.reduceMul, Nat.reduceLT, Nat.reduceLeDiff, Nat.reduceSub, reduceCtorEq, reduceIte, Int.reduceToNat, beq_self_eq_true, Bool.and_self]
        refine hNv _ (VWp.keep [6] [] ?_); simp only [go_sem, Int.reduceEq, Int.reduceNe, Int.reduceLT, Int.reduceLE, Nat.reduceEqDiff, Nat.reduceAdd, Nat.reduceMul, Nat.reduceLT, Nat.reduceLeDiff, Nat.reduceSub, reduceCtorEq, reduceIte, Int.reduceToNat, beq_self_eq_true, Bool.and_self]
        refine vwp_ret ?_
        simp only [go_sem, Int.reduceEq, Int.reduceNe, Int.reduceLT, Int.reduceLE, Nat.reduceEqDiff, Nat.reduceAdd, Nat.reduceMul, Nat.reduceLT, Nat.reduceLeDiff, Nat.reduceSub, reduceCtorEq, reduceIte, Int.reduceToNat, beq_self_eq_true, Bool.and_self]
        exact LeV.refl _
    · have hwr := Write_err t1S l (by omega) hS cw
      generalize (wrtE t1S l).2 = e at *
      have e2 : decide (e = 0) = false := decide_eq_false cw
      unfold t1S at hwr
      refine spec_of tt_ok Tryz.func6 rfl (by decide) Tryz.ntmps6 (congrArg Array.toList Tryz.results6) (by simp) (by decide) rfl rfl (fun F hF => ?_)
      refine vwp_seq_k fun Na hNa => vreg tt_ok hF rfl ?_; simp only [go_sem, Int.reduceEq, Int.reduceNe, Int.reduceLT, Int.reduceLE, Nat.reduceEqDiff, Nat.reduceAdd, Nat.reduceMul, Nat.reduceLT, Nat.reduceLeDiff, Nat.reduceSub, reduceCtorEq, reduceIte, Int.reduceToNat, beq_self_eq_true, Bool.and_self]
      refine hNa _ (VWp.keep [0,1,5] [5] ?_); simp only [go_sem, Int.reduceEq, Int.reduceNe, Int.reduceLT, Int.reduceLE, Nat.reduceEqDiff, Nat.reduceAdd, Nat.reduceMul, Nat.reduceLT, Nat.reduceLeDiff, Nat.reduceSub, reduceCtorEq, reduceIte, Int.reduceToNat, beq_self_eq_true, Bool.and_self]
      refine vwp_seq_k fun Nb hNb => ?_
      refine vwp_seq_k fun Nc hNc => vreg tt_ok hF rfl ?_; simp only [go_sem, Int.reduceEq, Int.reduceNe, Int.reduceLT, Int.reduceLE, Nat.reduceEqDiff, Nat.reduceAdd, Nat.reduceMul, Nat.reduceLT, Nat.reduceLeDiff, Nat.reduceSub, reduceCtorEq, reduceIte, Int.reduceToNat, beq_self_eq_true, Bool.and_self]
      refine .inl ⟨_, hbig, ?_⟩; try simp only [go_sem, Int.reduceEq, Int.reduceNe, Int.reduceLT, Int.reduceLE, Nat.reduceEqDiff, Nat.reduceAdd, Nat.reduceMul, Nat.reduceLT, Nat.reduceLeDiff, Nat.reduceSub, reduceCtorEq, reduceIte, Int.reduceToNat, beq_self_eq_true, Bool.and_self]
      refine .inl ⟨_, hbf, ?_⟩; try simp only [go_sem, Int.reduceEq, Int.reduceNe, Int.reduceLT, Int.reduceLE, Nat.reduceEqDiff, Nat.reduceAdd, Nat.reduceMul, Nat.reduceLT, Nat.reduceLeDiff, Nat.reduceSub, reduceCtorEq, reduceIte, Int.reduceToNat, beq_self_eq_true, Bool.and_self]
      refine hNc _ (VWp.keep [0,1,5,22] [5] ?_); simp only [go_sem, Int.reduceEq, Int.reduceNe, Int.reduceLT, Int.reduceLE, Nat.reduceEqDiff, Nat.reduceAdd, Nat.reduceMul, Nat.reduceLT, Nat.reduceLeDiff, Nat.reduceSub, reduceCtorEq, reduceIte, Int.reduceToNat, beq_self_eq_true, Bool.and_self]
      refine vif rfl ⟨(fun ht => by cases ht), fun hf => ?_⟩
      refine vwp_skip (hNb _ ?_)
      refine vwp_seq_k fun Ne hNe => vreg tt_ok hF rfl ?_; simp only [go_sem, Int.reduceEq, Int.reduceNe, Int.reduceLT, Int.reduceLE, Nat.reduceEqDiff, Nat.reduceAdd, Nat.reduceMul, Nat.reduceLT, Nat.reduceLeDiff, Nat.reduceSub, reduceCtorEq, reduceIte, Int.reduceToNat, beq_self_eq_true, Bool.and_self]
      refine .inl ⟨_, hto, ?_⟩; try simp only [go_sem, Int.reduceEq, Int.reduceNe, Int.reduceLT, Int.reduceLE, Nat.reduceEqDiff, Nat.reduceAdd, Nat.reduceMul, Nat.reduceLT, Nat.reduceLeDiff, Nat.reduceSub, reduceCtorEq, reduceIte, Int.reduceToNat, beq_self_eq_true, Bool.and_self]
      refine .inl ⟨_, hwr, ?_⟩; try simp only [go_sem, Int.reduceEq, Int.reduceNe, Int.reduceLT, Int.reduceLE, Nat.reduceEqDiff, Nat.reduceAdd, Nat.reduceMul, Nat.reduceLT, Nat.reduceLeDiff, Nat.reduceSub, reduceCtorEq, reduceIte, Int.reduceToNat, beq_self_eq_true, Bool.and_self]
      refine hNe _ (VWp.keep [0,1,5,7,8] [5] ?_); simp only [go_sem, Int.reduceEq, Int.reduceNe, Int.reduceLT, Int.reduceLE, Nat.reduceEqDiff, Nat.reduceAdd, Nat.reduceMul, Nat.reduceLT, Nat.reduceLeDiff, Nat.reduceSub, reduceCtorEq, reduceIte, Int.reduceToNat, beq_self_eq_true, Bool.and_self]
      refine vwp_seq_k fun Nf hNf => ?_
      refine vwp_seq_k fun Ng hNg => vreg tt_ok hF rfl ?_; simp only [go_sem, Int.reduceEq, Int.reduceNe, Int.reduceLT, Int.reduceLE, Nat.reduceEqDiff, Nat.reduceAdd, Nat.reduceMul, Nat.reduceLT, Nat.reduceLeDiff, Nat.reduceSub, reduceCtorEq, reduceIte, Int.reduceToNat, beq_self_eq_true, Bool.and_self]
      refine hNg _ (VWp.keep [0,1,5,7,30] [5] ?_); simp only [go_sem, Int.reduceEq, Int.reduceNe, Int.reduceLT, Int.reduceLE, Nat.reduceEqDiff, Nat.reduceAdd, Nat.reduceMul, Nat.reduceLT, Nat.reduceLeDiff, Nat.reduceSub, reduceCtorEq, reduceIte, Int.reduceToNat, beq_self_eq_true, Bool.and_self]
      refine vif rfl ⟨fun ht => ?_, (fun hf => by simp at hf; exact absurd hf cw)⟩
      refine vwp_seq_k fun Nh hNh => vreg tt_ok hF rfl ?_; simp only [go_sem, Int.reduceEq, Int.reduceNe, Int.reduceLT, Int.reduceLE, Nat.reduceEqDiff, Nat.reduceAdd, Nat.reduceMul, Nat.reduceLT, Nat.reduceLeDiff, Nat.reduceSub, reduceCtorEq, reduceIte, Int.reduceToNat, beq_self_eq_true, Bool.and_self]
      refine .inl ⟨_, hwk, ?_⟩; try simp only [go_sem, Int.reduceEq, Int.reduceNe, Int.reduceLT, Int.reduceLE, Nat.reduceEqDiff, Nat.reduceAdd, Nat.reduceMul, Nat.reduceLT, Nat.reduceLeDiff, Nat.reduceSub, reduceCtorEq, reduceIte, Int.reduceToNat, beq_self_eq_true, Bool.and_self]
      refine hNh _ (VWp.keep [6] [] ?_); simp only [go_sem, Int.reduceEq, Int.reduceNe, Int.reduceLT, Int.reduceLE, Nat.reduceEqDiff, Nat.reduceAdd, Nat.reduceMul, Nat.reduceLT, Nat.reduceLeDiff, Nat.reduceSub, reduceCtorEq, reduceIte, Int.reduceToNat, beq_self_eq_true, Bool.and_self]
      refine vwp_ret ?_
      simp only [go_sem, Int.reduceEq, Int.reduceNe, Int.reduceLT, Int.reduceLE, Nat.reduceEqDiff, Nat.reduceAdd, Nat.reduceMul, Nat.reduceLT, Nat.reduceLeDiff, Nat.reduceSub, reduceCtorEq, reduceIte, Int.reduceToNat, beq_self_eq_true, Bool.and_self]
      exact LeV.refl _
def newF : FilT := ⟨[78, 69, 87], ⟨1, 3, false, false, 0, 9, 0, 0⟩, [[7]]⟩
set_option maxHeartbeats 16000000 in
set_option maxRecDepth 4000 in
theorem LabelTorn_spec (l : List FilT) (n : Int) (rest : List TbT) : Spec Tryz.prog 7 [.sl 10 (l.map filC), .int .i64 n, .sl 3 (rest.map tbC)] (.bool true) := by
  have hbig := Big_spec l
  have hbt := BigTape_spec rest
  by_cases cb : bigT l = true ∨ bigB rest = true
  · refine spec_of tt_ok Tryz.func7 rfl (by decide) Tryz.ntmps7 (congrArg Array.toList Tryz.results7) (by simp) (by decide) rfl rfl (fun F hF => ?_)
    refine vwp_seq_k fun Na hNa => vreg tt_ok hF rfl ?_; simp only [go_sem, Int.reduceEq, Int.reduceNe, Int.reduceLT, Int.reduceLE, Nat.reduceEqDiff, Nat.reduceAdd, Nat.reduceMul, Nat.reduceLT, Nat.reduceLeDiff, Nat.reduceSub, reduceCtorEq, reduceIte, Int.reduceToNat, beq_self_eq_true, Bool.and_self]
    refine hNa _ (VWp.keep [0,1,2] [] ?_); simp only [go_sem, Int.reduceEq, Int.reduceNe, Int.reduceLT, Int.reduceLE, Nat.reduceEqDiff, Nat.reduceAdd, Nat.reduceMul, Nat.reduceLT, Nat.reduceLeDiff, Nat.reduceSub, reduceCtorEq, reduceIte, Int.reduceToNat, beq_self_eq_true, Bool.and_self]
    refine vwp_seq_k fun Nb hNb => ?_
    rcases hq : bigT l with _ | _
    · have hq2 : bigB rest = true := by rcases cb with h | h; (rw [hq] at h; cases h); exact h
      rw [hq] at hbig
      rw [hq2] at hbt
      refine vwp_seq_k fun Nc hNc => vreg tt_ok hF rfl ?_; simp only [go_sem, Int.reduceEq, Int.reduceNe, Int.reduceLT, Int.reduceLE, Nat.reduceEqDiff, Nat.reduceAdd, Nat.reduceMul, Nat.reduceLT, Nat.reduceLeDiff, Nat.reduceSub, reduceCtorEq, reduceIte, Int.reduceToNat, beq_self_eq_true, Bool.and_self]
      refine .inl ⟨_, hbig, ?_⟩; try simp only [go_sem, Int.reduceEq, Int.reduceNe, Int.reduceLT, Int.reduceLE, Nat.reduceEqDiff, Nat.reduceAdd, Nat.reduceMul, Nat.reduceLT, Nat.reduceLeDiff, Nat.reduceSub, reduceCtorEq, reduceIte, Int.reduceToNat, beq_self_eq_true, Bool.and_self]
      refine .inl ⟨_, hbt, ?_⟩; try simp only [go_sem, Int.reduceEq, Int.reduceNe, Int.reduceLT, Int.reduceLE, Nat.reduceEqDiff, Nat.reduceAdd, Nat.reduceMul, Nat.reduceLT, Nat.reduceLeDiff, Nat.reduceSub, reduceCtorEq, reduceIte, Int.reduceToNat, beq_self_eq_true, Bool.and_self]
      refine hNc _ (VWp.keep [0,1,2,24] [] ?_); simp only [go_sem, Int.reduceEq, Int.reduceNe, Int.reduceLT, Int.reduceLE, Nat.reduceEqDiff, Nat.reduceAdd, Nat.reduceMul, Nat.reduceLT, Nat.reduceLeDiff, Nat.reduceSub, reduceCtorEq, reduceIte, Int.reduceToNat, beq_self_eq_true, Bool.and_self]
      refine vif rfl ⟨fun ht => ?_, (fun hf => by cases hf)⟩
      refine vwp_seq_k fun Nd hNd => vreg tt_ok hF rfl ?_; simp only [go_sem, Int.reduceEq, Int.reduceNe, Int.reduceLT, Int.reduceLE, Nat.reduceEqDiff, Nat.reduceAdd, Nat.reduceMul, Nat.reduceLT, Nat.reduceLeDiff, Nat.reduceSub, reduceCtorEq, reduceIte, Int.reduceToNat, beq_self_eq_true, Bool.and_self]
      refine hNd _ (VWp.keep [6] [] ?_); simp only [go_sem, Int.reduceEq, Int.reduceNe, Int.reduceLT, Int.reduceLE, Nat.reduceEqDiff, Nat.reduceAdd, Nat.reduceMul, Nat.reduceLT, Nat.reduceLeDiff, Nat.reduceSub, reduceCtorEq, reduceIte, Int.reduceToNat, beq_self_eq_true, Bool.and_self]
      refine vwp_ret ?_
      simp only [go_sem, Int.reduceEq, Int.reduceNe, Int.reduceLT, Int.reduceLE, Nat.reduceEqDiff, Nat.reduceAdd, Nat.reduceMul, Nat.reduceLT, Nat.reduceLeDiff, Nat.reduceSub, reduceCtorEq, reduceIte, Int.reduceToNat, beq_self_eq_true, Bool.and_self]
      exact LeV.refl _
    · rw [hq] at hbig
      refine vwp_seq_k fun Nc hNc => vreg tt_ok hF rfl ?_; simp only [go_sem, Int.reduceEq, Int.reduceNe, Int.reduceLT, Int.reduceLE, Nat.reduceEqDiff, Nat.reduceAdd, Nat.reduceMul, Nat.reduceLT, Nat.reduceLeDiff, Nat.reduceSub, reduceCtorEq, reduceIte, Int.reduceToNat, beq_self_eq_true, Bool.and_self]
      refine .inl ⟨_, hbig, ?_⟩; try simp only [go_sem, Int.reduceEq, Int.reduceNe, Int.reduceLT, Int.reduceLE, Nat.reduceEqDiff, Nat.reduceAdd, Nat.reduceMul, Nat.reduceLT, Nat.reduceLeDiff, Nat.reduceSub, reduceCtorEq, reduceIte, Int.reduceToNat, beq_self_eq_true, Bool.and_self]
      refine hNc _ (VWp.keep [0,1,2,24] [] ?_); simp only [go_sem, Int.reduceEq, Int.reduceNe, Int.reduceLT, Int.reduceLE, Nat.reduceEqDiff, Nat.reduceAdd, Nat.reduceMul, Nat.reduceLT, Nat.reduceLeDiff, Nat.reduceSub, reduceCtorEq, reduceIte, Int.reduceToNat, beq_self_eq_true, Bool.and_self]
      refine vif rfl ⟨fun ht => ?_, (fun hf => by cases hf)⟩
      refine vwp_seq_k fun Nd hNd => vreg tt_ok hF rfl ?_; simp only [go_sem, Int.reduceEq, Int.reduceNe, Int.reduceLT, Int.reduceLE, Nat.reduceEqDiff, Nat.reduceAdd, Nat.reduceMul, Nat.reduceLT, Nat.reduceLeDiff, Nat.reduceSub, reduceCtorEq, reduceIte, Int.reduceToNat, beq_self_eq_true, Bool.and_self]
      refine hNd _ (VWp.keep [6] [] ?_); simp only [go_sem, Int.reduceEq, Int.reduceNe, Int.reduceLT, Int.reduceLE, Nat.reduceEqDiff, Nat.reduceAdd, Nat.reduceMul, Nat.reduceLT, Nat.reduceLeDiff, Nat.reduceSub, reduceCtorEq, reduceIte, Int.reduceToNat, beq_self_eq_true, Bool.and_self]
      refine vwp_ret ?_
      simp only [go_sem, Int.reduceEq, Int.reduceNe, Int.reduceLT, Int.reduceLE, Nat.reduceEqDiff, Nat.reduceAdd, Nat.reduceMul, Nat.reduceLT, Nat.reduceLeDiff, Nat.reduceSub, reduceCtorEq, reduceIte, Int.reduceToNat, beq_self_eq_true, Bool.and_self]
      exact LeV.refl _
  · have c1 : bigT l = false := by rcases hq : bigT l with _ | _; rfl; exact absurd (.inl hq) cb
    have c2 : bigB rest = false := by rcases hq : bigB rest with _ | _; rfl; exact absurd (.inr hq) cb
    obtain ⟨hl8, hfb⟩ := bigT_no c1
    obtain ⟨hr2, hrd⟩ := bigB_no c2
    rw [c1] at hbig
    rw [c2] at hbt
    have hB : ∀ f ∈ l, FilB f := fun f hf => ⟨by have := (hfb f hf).1; omega, fun r hr => by have := (hfb f hf).2.2 r hr; omega⟩
    have hS : ∀ f ∈ l, FilS f := fun f hf => ⟨by have := (hfb f hf).1; omega, by have := (hfb f hf).2.1; omega⟩
    have hto := to_spec l (by omega) hB
    have hwk := works_spec
    by_cases cw : (wrtE t1S l).2 = 0
    · obtain ⟨z1, z2, z3, z4⟩ := wrtE_ok cw
      have hlen : ((tapT t1S l).map tbC).length = (allB 0 l).length + 2 := by rw [List.length_map]; unfold tapT tapR; simp
      have hwr := Write_B t1S l (by omega) hS z1 z2 z3
      rw [← hlen] at hwr
      change SpecB _ _ _ _ _ [(17, .arr 3 48 ((tapT t1S l).map tbC))] at hwr
      obtain ⟨m, hm, hm0, hme⟩ := rem_pos n l.length (by omega)
      have hlt : (l.take m).length = m := by rw [List.length_take]; omega
      have hnr : newF.recs.length ≤ 4096 := by show 1 ≤ _; omega
      have hnn : newF.name.length ≤ 1000000 := by show 3 ≤ _; omega
      have hrt : ∀ f ∈ l.take m, f.recs.length ≤ 4096 := fun f hf => (hS f (List.mem_of_mem_take hf)).r
      have hst := Start_spec t1S l z1 z2 (fun f hf => (hS f hf).r) (by rw [List.length_map] at hlen; omega) (by omega) m hm
      have hpt := Put_tap t1S l newF z1 z2 (fun f hf => (hS f hf).r) (by rw [List.length_map] at hlen; omega) (by omega) hnr hnn m hm
      have hcut : ((tapT t1S l).map tbC).take (posT l m) = (tapR t1S (l.take m) []).map tbC := by rw [tap_take t1S l m]; exact cut_at _ _ _ _
      have hpl : 1 ≤ posT l m ∧ posT l m < ((tapT t1S l).map tbC).length := by
        rw [pos_len t1S, tap_take t1S l m, List.length_map]; unfold tapR; simp
      have hDl : (tapR t1S (l.take m) []).length ≤ 5000 := by rw [← pos_len]; rw [List.length_map] at hlen hpl; omega
      have hDd := tap_data z1 (errB_take z2 m) hrt (by omega)
      have hcp := Copy26_B (tapR t1S (l.take m) []) (by omega) (fun t ht => by have := hDd t ht; omega)
      have htr : tapR t1S (l.take m) [] ++ rest = tapR t1S (l.take m) rest := by unfold tapR; simp
      have hbt2 : (tapR t1S (l.take m) rest).length ≤ 1000000 := by rw [← htr, List.length_append]; omega
      have hst2 := Start_R t1S (l.take m) rest z1 (errB_take z2 m) hrt hbt2 (by omega) m hlt.symm
      rw [pos_take] at hst2
      have hpt2 := Put_R t1S (l.take m) rest newF z1 (errB_take z2 m) hrt hbt2 (by omega) hnr hnn m hlt.symm
      have hwl : (wrtE t1S (l.take m ++ [newF])).1.length ≤ 100000 := by
        by_cases q : (wrtE t1S (l.take m ++ [newF])).2 = 0
        · obtain ⟨_, _, w3, w4⟩ := wrtE_ok q
          rw [w4]; unfold tapT tapR; simp at w3 ⊢; omega
        · rw [wrtE_bad q]; simp
      have hsb := SameBlocks_spec (wrtE t1S (l.take m ++ [newF])).1 hwl
      rw [← List.length_map (f := tbC)] at hcp
      rw [← htr, List.map_append] at hst2 hpt2
      have hRl : (rest.map tbC).length ≤ 200 := by rw [List.length_map]; exact hr2
      have hDl2 : ((tapR t1S (l.take m) []).map tbC).length ≤ 5000 := by rw [List.length_map]; exact hDl
      generalize (tapR t1S (l.take m) []).map tbC = D at *
      generalize (tapT t1S l).map tbC = T at *
      generalize rest.map tbC = R at *
      generalize hat : posT l m = at_ at *
      generalize wrtE t1S (l.take m ++ [newF]) = W at *
      obtain ⟨Wb, We⟩ := W
      simp only at hpt hpt2 hsb
      generalize Wb.map tbC = U at *
      have ea : decide ((at_ : Int) < 1) = false := decide_eq_false (by omega)
      have eb : decide ((T.length : Int) ≤ (at_ : Int)) = false := decide_eq_false (by omega)
      have h7 : ((UInt8.toNat 7 : Nat) : Int) = 7 := rfl
      simp only [filV, filC, newF, List.map_cons, List.map_nil, blkR, u8V, u8c, h7] at hpt hpt2
      unfold t1S at hwr
      refine spec_of tt_ok Tryz.func7 rfl (by decide) Tryz.ntmps7 (congrArg Array.toList Tryz.results7) (by simp) (by decide) rfl rfl (fun F hF => ?_)
      refine vwp_seq_k fun Na hNa => vreg tt_ok hF rfl ?_; simp only [go_sem, Int.reduceEq, Int.reduceNe, Int.reduceLT, Int.reduceLE, Nat.reduceEqDiff, Nat.reduceAdd, Nat.reduceMul, Nat.reduceLT, Nat.reduceLeDiff, Nat.reduceSub, reduceCtorEq, reduceIte, Int.reduceToNat, beq_self_eq_true, Bool.and_self]
      refine hNa _ (VWp.keep [0,1,2] [] ?_); simp only [go_sem, Int.reduceEq, Int.reduceNe, Int.reduceLT, Int.reduceLE, Nat.reduceEqDiff, Nat.reduceAdd, Nat.reduceMul, Nat.reduceLT, Nat.reduceLeDiff, Nat.reduceSub, reduceCtorEq, reduceIte, Int.reduceToNat, beq_self_eq_true, Bool.and_self]
      refine vwp_seq_k fun Nb hNb => ?_
      refine vwp_seq_k fun Nc hNc => vreg tt_ok hF rfl ?_; simp only [go_sem, Int.reduceEq, Int.reduceNe, Int.reduceLT, Int.reduceLE, Nat.reduceEqDiff, Nat.reduceAdd, Nat.reduceMul, Nat.reduceLT, Nat.reduceLeDiff, Nat.reduceSub, reduceCtorEq, reduceIte, Int.reduceToNat, beq_self_eq_true, Bool.and_self]
      refine .inl ⟨_, hbig, ?_⟩; try simp only [go_sem, Int.reduceEq, Int.reduceNe, Int.reduceLT, Int.reduceLE, Nat.reduceEqDiff, Nat.reduceAdd, Nat.reduceMul, Nat.reduceLT, Nat.reduceLeDiff, Nat.reduceSub, reduceCtorEq, reduceIte, Int.reduceToNat, beq_self_eq_true, Bool.and_self]
      refine .inl ⟨_, hbt, ?_⟩; try simp only [go_sem, Int.reduceEq, Int.reduceNe, Int.reduceLT, Int.reduceLE, Nat.reduceEqDiff, Nat.reduceAdd, Nat.reduceMul, Nat.reduceLT, Nat.reduceLeDiff, Nat.reduceSub, reduceCtorEq, reduceIte, Int.reduceToNat, beq_self_eq_true, Bool.and_self]
      refine hNc _ (VWp.keep [0,1,2,24] [] ?_); simp only [go_sem, Int.reduceEq, Int.reduceNe, Int.reduceLT, Int.reduceLE, Nat.reduceEqDiff, Nat.reduceAdd, Nat.reduceMul, Nat.reduceLT, Nat.reduceLeDiff, Nat.reduceSub, reduceCtorEq, reduceIte, Int.reduceToNat, beq_self_eq_true, Bool.and_self]
      refine vif rfl ⟨(fun ht => by cases ht), fun hf => ?_⟩
      refine vwp_skip (hNb _ ?_)
      refine vwp_seq_k fun Ne hNe => vreg tt_ok hF rfl ?_; simp only [go_sem, Int.reduceEq, Int.reduceNe, Int.reduceLT, Int.reduceLE, Nat.reduceEqDiff, Nat.reduceAdd, Nat.reduceMul, Nat.reduceLT, Nat.reduceLeDiff, Nat.reduceSub, reduceCtorEq, reduceIte, Int.reduceToNat, beq_self_eq_true, Bool.and_self]
      refine .inl ⟨_, hto, ?_⟩; try simp only [go_sem, Int.reduceEq, Int.reduceNe, Int.reduceLT, Int.reduceLE, Nat.reduceEqDiff, Nat.reduceAdd, Nat.reduceMul, Nat.reduceLT, Nat.reduceLeDiff, Nat.reduceSub, reduceCtorEq, reduceIte, Int.reduceToNat, beq_self_eq_true, Bool.and_self]
      refine .inr (bxo [(17, 28)] rfl ?_); simp only [go_sem, Int.reduceEq, Int.reduceNe, Int.reduceLT, Int.reduceLE, Nat.reduceEqDiff, Nat.reduceAdd, Nat.reduceMul, Nat.reduceLT, Nat.reduceLeDiff, Nat.reduceSub, reduceCtorEq, reduceIte, Int.reduceToNat, beq_self_eq_true, Bool.and_self]; refine ⟨_, _, hwr, ?_⟩; try simp only [go_sem, Int.reduceEq, Int.reduceNe, Int.reduceLT, Int.reduceLE, Nat.reduceEqDiff, Nat.reduceAdd, Nat.reduceMul, Nat.reduceLT, Nat.reduceLeDiff, Nat.reduceSub, reduceCtorEq, reduceIte, Int.reduceToNat, beq_self_eq_true, Bool.and_self]
      refine hNe _ (VWp.keep [0,1,2,7,8] [28] ?_); simp only [go_sem, Int.reduceEq, Int.reduceNe, Int.reduceLT, Int.reduceLE, Nat.reduceEqDiff, Nat.reduceAdd, Nat.reduceMul, Nat.reduceLT, Nat.reduceLeDiff, Nat.reduceSub, reduceCtorEq, reduceIte, Int.reduceToNat, beq_self_eq_true, Bool.and_self]
      refine vwp_seq_k fun Nf hNf => ?_
      refine vwp_seq_k fun Ng hNg => vreg tt_ok hF rfl ?_; simp only [go_sem, Int.reduceEq, Int.reduceNe, Int.reduceLT, Int.reduceLE, Nat.reduceEqDiff, Nat.reduceAdd, Nat.reduceMul, Nat.reduceLT, Nat.reduceLeDiff, Nat.reduceSub, reduceCtorEq, reduceIte, Int.reduceToNat, beq_self_eq_true, Bool.and_self]
      refine hNg _ (VWp.keep [0,1,2,7,32] [28] ?_); simp only [go_sem, Int.reduceEq, Int.reduceNe, Int.reduceLT, Int.reduceLE, Nat.reduceEqDiff, Nat.reduceAdd, Nat.reduceMul, Nat.reduceLT, Nat.reduceLeDiff, Nat.reduceSub, reduceCtorEq, reduceIte, Int.reduceToNat, beq_self_eq_true, Bool.and_self]
      refine vif rfl ⟨(fun ht => by cases ht), fun hf => ?_⟩
      refine vwp_skip (hNf _ ?_)
      refine vwp_seq_k fun Ni hNi => vreg tt_ok hF rfl ?_; simp only [go_sem, Int.reduceEq, Int.reduceNe, Int.reduceLT, Int.reduceLE, Nat.reduceEqDiff, Nat.reduceAdd, Nat.reduceMul, Nat.reduceLT, Nat.reduceLeDiff, Nat.reduceSub, reduceCtorEq, reduceIte, Int.reduceToNat, beq_self_eq_true, Bool.and_self]
      refine ⟨hm0, ?_⟩
      rw [hme]
      refine hNi _ (VWp.keepR [1,2,7] [28] tt_ok hF rfl fun Nj hNj => ?_); simp only [go_sem, Int.reduceEq, Int.reduceNe, Int.reduceLT, Int.reduceLE, Nat.reduceEqDiff, Nat.reduceAdd, Nat.reduceMul, Nat.reduceLT, Nat.reduceLeDiff, Nat.reduceSub, reduceCtorEq, reduceIte, Int.reduceToNat, beq_self_eq_true, Bool.and_self]
      refine .inl ⟨_, hst, ?_⟩; try simp only [go_sem, Int.reduceEq, Int.reduceNe, Int.reduceLT, Int.reduceLE, Nat.reduceEqDiff, Nat.reduceAdd, Nat.reduceMul, Nat.reduceLT, Nat.reduceLeDiff, Nat.reduceSub, reduceCtorEq, reduceIte, Int.reduceToNat, beq_self_eq_true, Bool.and_self]
      refine hNj _ (VWp.keep [1,2,7,9,10] [28] ?_); simp only [go_sem, Int.reduceEq, Int.reduceNe, Int.reduceLT, Int.reduceLE, Nat.reduceEqDiff, Nat.reduceAdd, Nat.reduceMul, Nat.reduceLT, Nat.reduceLeDiff, Nat.reduceSub, reduceCtorEq, reduceIte, Int.reduceToNat, beq_self_eq_true, Bool.and_self]
      refine vwp_seq_k fun Nk hNk => ?_
      refine vwp_seq_k fun Nl hNl => vreg tt_ok hF rfl ?_; simp only [go_sem, Int.reduceEq, Int.reduceNe, Int.reduceLT, Int.reduceLE, Nat.reduceEqDiff, Nat.reduceAdd, Nat.reduceMul, Nat.reduceLT, Nat.reduceLeDiff, Nat.reduceSub, reduceCtorEq, reduceIte, Int.reduceToNat, beq_self_eq_true, Bool.and_self]
      try simp only [ea, eb, go_sem, Int.reduceEq, Int.reduceNe, Int.reduceLT, Int.reduceLE, Nat.reduceEqDiff, Nat.reduceAdd, Nat.reduceMul, Nat.reduceLT, Nat.reduceLeDiff, Nat.reduceSub, reduceCtorEq, reduceIte, Int.reduceToNat, beq_self_eq_true, Bool.and_self]
      refine hNl _ (VWp.keep [1,2,7,9,64] [28] ?_); simp only [go_sem, Int.reduceEq, Int.reduceNe, Int.reduceLT, Int.reduceLE, Nat.reduceEqDiff, Nat.reduceAdd, Nat.reduceMul, Nat.reduceLT, Nat.reduceLeDiff, Nat.reduceSub, reduceCtorEq, reduceIte, Int.reduceToNat, beq_self_eq_true, Bool.and_self]
      refine vif rfl ⟨(fun ht => by cases ht), fun hf => ?_⟩
      refine vwp_skip (hNk _ ?_)
      refine vwp_seq_k fun Nn hNn => vreg tt_ok hF rfl ?_; simp only [go_sem, Int.reduceEq, Int.reduceNe, Int.reduceLT, Int.reduceLE, Nat.reduceEqDiff, Nat.reduceAdd, Nat.reduceMul, Nat.reduceLT, Nat.reduceLeDiff, Nat.reduceSub, reduceCtorEq, reduceIte, Int.reduceToNat, beq_self_eq_true, Bool.and_self]
      refine hNn _ (VWp.keep [1,2,7,9,11] [11,28,67] ?_); simp only [go_sem, Int.reduceEq, Int.reduceNe, Int.reduceLT, Int.reduceLE, Nat.reduceEqDiff, Nat.reduceAdd, Nat.reduceMul, Nat.reduceLT, Nat.reduceLeDiff, Nat.reduceSub, reduceCtorEq, reduceIte, Int.reduceToNat, beq_self_eq_true, Bool.and_self]
      refine VWp.lookB 11 9 (d := 67) rfl rfl rfl rfl (prvB_no rfl) ?_
      simp only [go_sem, Int.reduceEq, Int.reduceNe, Int.reduceLT, Int.reduceLE, Nat.reduceEqDiff, Nat.reduceAdd, Nat.reduceMul, Nat.reduceLT, Nat.reduceLeDiff, Nat.reduceSub, reduceCtorEq, reduceIte, Int.reduceToNat, beq_self_eq_true, Bool.and_self]
      refine vwp_seq_k fun No hNo => vreg tt_ok hF rfl ?_; simp only [go_sem, Int.reduceEq, Int.reduceNe, Int.reduceLT, Int.reduceLE, Nat.reduceEqDiff, Nat.reduceAdd, Nat.reduceMul, Nat.reduceLT, Nat.reduceLeDiff, Nat.reduceSub, reduceCtorEq, reduceIte, Int.reduceToNat, beq_self_eq_true, Bool.and_self]
      refine .inl ⟨_, hpt, ?_⟩; try simp only [go_sem, Int.reduceEq, Int.reduceNe, Int.reduceLT, Int.reduceLE, Nat.reduceEqDiff, Nat.reduceAdd, Nat.reduceMul, Nat.reduceLT, Nat.reduceLeDiff, Nat.reduceSub, reduceCtorEq, reduceIte, Int.reduceToNat, beq_self_eq_true, Bool.and_self]
      refine hNo _ (VWp.keepR [1,2,7,9,11,12,13] [11,28] tt_ok hF rfl fun Np hNp => ?_); simp only [go_sem, Int.reduceEq, Int.reduceNe, Int.reduceLT, Int.reduceLE, Nat.reduceEqDiff, Nat.reduceAdd, Nat.reduceMul, Nat.reduceLT, Nat.reduceLeDiff, Nat.reduceSub, reduceCtorEq, reduceIte, Int.reduceToNat, beq_self_eq_true, Bool.and_self]
      refine ⟨⟨by omega, by omega⟩, ?_⟩
      simp only [hcut, Int.toNat_natCast, go_sem, Int.reduceEq, Int.reduceNe, Int.reduceLT, Int.reduceLE, Nat.reduceEqDiff, Nat.reduceAdd, Nat.reduceMul, Nat.reduceLT, Nat.reduceLeDiff, Nat.reduceSub, reduceCtorEq, reduceIte, Int.reduceToNat, beq_self_eq_true, Bool.and_self]
      refine .inr (bxo [(500000, 79)] rfl ?_); simp only [go_sem, Int.reduceEq, Int.reduceNe, Int.reduceLT, Int.reduceLE, Nat.reduceEqDiff, Nat.reduceAdd, Nat.reduceMul, Nat.reduceLT, Nat.reduceLeDiff, Nat.reduceSub, reduceCtorEq, reduceIte, Int.reduceToNat, beq_self_eq_true, Bool.and_self]; refine ⟨_, _, hcp, ?_⟩; try simp only [go_sem, Int.reduceEq, Int.reduceNe, Int.reduceLT, Int.reduceLE, Nat.reduceEqDiff, Nat.reduceAdd, Nat.reduceMul, Nat.reduceLT, Nat.reduceLeDiff, Nat.reduceSub, reduceCtorEq, reduceIte, Int.reduceToNat, beq_self_eq_true, Bool.and_self]
      refine ⟨by omega, ?_⟩
      refine hNp _ (VWp.keepR [1,9,11,12,13,14] [11,79] tt_ok hF rfl fun Nq hNq => ?_); simp only [go_sem, Int.reduceEq, Int.reduceNe, Int.reduceLT, Int.reduceLE, Nat.reduceEqDiff, Nat.reduceAdd, Nat.reduceMul, Nat.reduceLT, Nat.reduceLeDiff, Nat.reduceSub, reduceCtorEq, reduceIte, Int.reduceToNat, beq_self_eq_true, Bool.and_self]
      refine .inl ⟨_, hst2, ?_⟩; try simp only [go_sem, Int.reduceEq, Int.reduceNe, Int.reduceLT, Int.reduceLE, Nat.reduceEqDiff, Nat.reduceAdd, Nat.reduceMul, Nat.reduceLT, Nat.reduceLeDiff, Nat.reduceSub, reduceCtorEq, reduceIte, Int.reduceToNat, beq_self_eq_true, Bool.and_self]
      refine hNq _ (VWp.keepR [1,9,11,12,13,14,15,16] [11,79] tt_ok hF rfl fun Nr hNr => ?_); simp only [go_sem, Int.reduceEq, Int.reduceNe, Int.reduceLT, Int.reduceLE, Nat.reduceEqDiff, Nat.reduceAdd, Nat.reduceMul, Nat.reduceLT, Nat.reduceLeDiff, Nat.reduceSub, reduceCtorEq, reduceIte, Int.reduceToNat, beq_self_eq_true, Bool.and_self]
      refine .inl ⟨_, hpt2, ?_⟩; try simp only [go_sem, Int.reduceEq, Int.reduceNe, Int.reduceLT, Int.reduceLE, Nat.reduceEqDiff, Nat.reduceAdd, Nat.reduceMul, Nat.reduceLT, Nat.reduceLeDiff, Nat.reduceSub, reduceCtorEq, reduceIte, Int.reduceToNat, beq_self_eq_true, Bool.and_self]
      refine hNr _ (VWp.keepR [9,12,13,15,16,17,18] [] tt_ok hF rfl fun Ns hNs => ?_); simp only [go_sem, Int.reduceEq, Int.reduceNe, Int.reduceLT, Int.reduceLE, Nat.reduceEqDiff, Nat.reduceAdd, Nat.reduceMul, Nat.reduceLT, Nat.reduceLeDiff, Nat.reduceSub, reduceCtorEq, reduceIte, Int.reduceToNat, beq_self_eq_true, Bool.and_self]
      try simp only [decide_true, go_sem, Int.reduceEq, Int.reduceNe, Int.reduceLT, Int.reduceLE, Nat.reduceEqDiff, Nat.reduceAdd, Nat.reduceMul, Nat.reduceLT, Nat.reduceLeDiff, Nat.reduceSub, reduceCtorEq, reduceIte, Int.reduceToNat, beq_self_eq_true, Bool.and_self]
      refine .inl ⟨_, hsb, ?_⟩; try simp only [go_sem, Int.reduceEq, Int.reduceNe, Int.reduceLT, Int.reduceLE, Nat.reduceEqDiff, Nat.reduceAdd, Nat.reduceMul, Nat.reduceLT, Nat.reduceLeDiff, Nat.reduceSub, reduceCtorEq, reduceIte, Int.reduceToNat, beq_self_eq_true, Bool.and_self]
      refine .inl ⟨_, hwk, ?_⟩; try simp only [go_sem, Int.reduceEq, Int.reduceNe, Int.reduceLT, Int.reduceLE, Nat.reduceEqDiff, Nat.reduceAdd, Nat.reduceMul, Nat.reduceLT, Nat.reduceLeDiff, Nat.reduceSub, reduceCtorEq, reduceIte, Int.reduceToNat, beq_self_eq_true, Bool.and_self]
      refine hNs _ (VWp.keep [6] [] ?_); simp only [go_sem, Int.reduceEq, Int.reduceNe, Int.reduceLT, Int.reduceLE, Nat.reduceEqDiff, Nat.reduceAdd, Nat.reduceMul, Nat.reduceLT, Nat.reduceLeDiff, Nat.reduceSub, reduceCtorEq, reduceIte, Int.reduceToNat, beq_self_eq_true, Bool.and_self]
      refine vwp_ret ?_
      simp only [go_sem, Int.reduceEq, Int.reduceNe, Int.reduceLT, Int.reduceLE, Nat.reduceEqDiff, Nat.reduceAdd, Nat.reduceMul, Nat.reduceLT, Nat.reduceLeDiff, Nat.reduceSub, reduceCtorEq, reduceIte, Int.reduceToNat, beq_self_eq_true, Bool.and_self]
      exact LeV.refl _
    · have hwr := Write_err t1S l (by omega) hS cw
      generalize (wrtE t1S l).2 = e at *
      have e2 : decide (e = 0) = false := decide_eq_false cw
      unfold t1S at hwr
      refine spec_of tt_ok Tryz.func7 rfl (by decide) Tryz.ntmps7 (congrArg Array.toList Tryz.results7) (by simp) (by decide) rfl rfl (fun F hF => ?_)
      refine vwp_seq_k fun Na hNa => vreg tt_ok hF rfl ?_; simp only [go_sem, Int.reduceEq, Int.reduceNe, Int.reduceLT, Int.reduceLE, Nat.reduceEqDiff, Nat.reduceAdd, Nat.reduceMul, Nat.reduceLT, Nat.reduceLeDiff, Nat.reduceSub, reduceCtorEq, reduceIte, Int.reduceToNat, beq_self_eq_true, Bool.and_self]
      refine hNa _ (VWp.keep [0,1,2] [] ?_); simp only [go_sem, Int.reduceEq, Int.reduceNe, Int.reduceLT, Int.reduceLE, Nat.reduceEqDiff, Nat.reduceAdd, Nat.reduceMul, Nat.reduceLT, Nat.reduceLeDiff, Nat.reduceSub, reduceCtorEq, reduceIte, Int.reduceToNat, beq_self_eq_true, Bool.and_self]
      refine vwp_seq_k fun Nb hNb => ?_
      refine vwp_seq_k fun Nc hNc => vreg tt_ok hF rfl ?_; simp only [go_sem, Int.reduceEq, Int.reduceNe, Int.reduceLT, Int.reduceLE, Nat.reduceEqDiff, Nat.reduceAdd, Nat.reduceMul, Nat.reduceLT, Nat.reduceLeDiff, Nat.reduceSub, reduceCtorEq, reduceIte, Int.reduceToNat, beq_self_eq_true, Bool.and_self]
      refine .inl ⟨_, hbig, ?_⟩; try simp only [go_sem, Int.reduceEq, Int.reduceNe, Int.reduceLT, Int.reduceLE, Nat.reduceEqDiff, Nat.reduceAdd, Nat.reduceMul, Nat.reduceLT, Nat.reduceLeDiff, Nat.reduceSub, reduceCtorEq, reduceIte, Int.reduceToNat, beq_self_eq_true, Bool.and_self]
      refine .inl ⟨_, hbt, ?_⟩; try simp only [go_sem, Int.reduceEq, Int.reduceNe, Int.reduceLT, Int.reduceLE, Nat.reduceEqDiff, Nat.reduceAdd, Nat.reduceMul, Nat.reduceLT, Nat.reduceLeDiff, Nat.reduceSub, reduceCtorEq, reduceIte, Int.reduceToNat, beq_self_eq_true, Bool.and_self]
      refine hNc _ (VWp.keep [0,1,2,24] [] ?_); simp only [go_sem, Int.reduceEq, Int.reduceNe, Int.reduceLT, Int.reduceLE, Nat.reduceEqDiff, Nat.reduceAdd, Nat.reduceMul, Nat.reduceLT, Nat.reduceLeDiff, Nat.reduceSub, reduceCtorEq, reduceIte, Int.reduceToNat, beq_self_eq_true, Bool.and_self]
      refine vif rfl ⟨(fun ht => by cases ht), fun hf => ?_⟩
      refine vwp_skip (hNb _ ?_)
      refine vwp_seq_k fun Ne hNe => vreg tt_ok hF rfl ?_; simp only [go_sem, Int.reduceEq, Int.reduceNe, Int.reduceLT, Int.reduceLE, Nat.reduceEqDiff, Nat.reduceAdd, Nat.reduceMul, Nat.reduceLT, Nat.reduceLeDiff, Nat.reduceSub, reduceCtorEq, reduceIte, Int.reduceToNat, beq_self_eq_true, Bool.and_self]
      refine .inl ⟨_, hto, ?_⟩; try simp only [go_sem, Int.reduceEq, Int.reduceNe, Int.reduceLT, Int.reduceLE, Nat.reduceEqDiff, Nat.reduceAdd, Nat.reduceMul, Nat.reduceLT, Nat.reduceLeDiff, Nat.reduceSub, reduceCtorEq, reduceIte, Int.reduceToNat, beq_self_eq_true, Bool.and_self]
      refine .inl ⟨_, hwr, ?_⟩; try simp only [go_sem, Int.reduceEq, Int.reduceNe, Int.reduceLT, Int.reduceLE, Nat.reduceEqDiff, Nat.reduceAdd, Nat.reduceMul, Nat.reduceLT, Nat.reduceLeDiff, Nat.reduceSub, reduceCtorEq, reduceIte, Int.reduceToNat, beq_self_eq_true, Bool.and_self]
      refine hNe _ (VWp.keep [0,1,2,7,8] [] ?_); simp only [go_sem, Int.reduceEq, Int.reduceNe, Int.reduceLT, Int.reduceLE, Nat.reduceEqDiff, Nat.reduceAdd, Nat.reduceMul, Nat.reduceLT, Nat.reduceLeDiff, Nat.reduceSub, reduceCtorEq, reduceIte, Int.reduceToNat, beq_self_eq_true, Bool.and_self]
      refine vwp_seq_k fun Nf hNf => ?_
      refine vwp_seq_k fun Ng hNg => vreg tt_ok hF rfl ?_; simp only [go_sem, Int.reduceEq, Int.reduceNe, Int.reduceLT, Int.reduceLE, Nat.reduceEqDiff, Nat.reduceAdd, Nat.reduceMul, Nat.reduceLT, Nat.reduceLeDiff, Nat.reduceSub, reduceCtorEq, reduceIte, Int.reduceToNat, beq_self_eq_true, Bool.and_self]
      refine hNg _ (VWp.keep [0,1,2,7,32] [] ?_); simp only [go_sem, Int.reduceEq, Int.reduceNe, Int.reduceLT, Int.reduceLE, Nat.reduceEqDiff, Nat.reduceAdd, Nat.reduceMul, Nat.reduceLT, Nat.reduceLeDiff, Nat.reduceSub, reduceCtorEq, reduceIte, Int.reduceToNat, beq_self_eq_true, Bool.and_self]
      refine vif rfl ⟨fun ht => ?_, (fun hf => by simp at hf; exact absurd hf cw)⟩
      refine vwp_seq_k fun Nh hNh => vreg tt_ok hF rfl ?_; simp only [go_sem, Int.reduceEq, Int.reduceNe, Int.reduceLT, Int.reduceLE, Nat.reduceEqDiff, Nat.reduceAdd, Nat.reduceMul, Nat.reduceLT, Nat.reduceLeDiff, Nat.reduceSub, reduceCtorEq, reduceIte, Int.reduceToNat, beq_self_eq_true, Bool.and_self]
      refine .inl ⟨_, hwk, ?_⟩; try simp only [go_sem, Int.reduceEq, Int.reduceNe, Int.reduceLT, Int.reduceLE, Nat.reduceEqDiff, Nat.reduceAdd, Nat.reduceMul, Nat.reduceLT, Nat.reduceLeDiff, Nat.reduceSub, reduceCtorEq, reduceIte, Int.reduceToNat, beq_self_eq_true, Bool.and_self]
      refine hNh _ (VWp.keep [6] [] ?_); simp only [go_sem, Int.reduceEq, Int.reduceNe, Int.reduceLT, Int.reduceLE, Nat.reduceEqDiff, Nat.reduceAdd, Nat.reduceMul, Nat.reduceLT, Nat.reduceLeDiff, Nat.reduceSub, reduceCtorEq, reduceIte, Int.reduceToNat, beq_self_eq_true, Bool.and_self]
      refine vwp_ret ?_
      simp only [go_sem, Int.reduceEq, Int.reduceNe, Int.reduceLT, Int.reduceLE, Nat.reduceEqDiff, Nat.reduceAdd, Nat.reduceMul, Nat.reduceLT, Nat.reduceLeDiff, Nat.reduceSub, reduceCtorEq, reduceIte, Int.reduceToNat, beq_self_eq_true, Bool.and_self]
      exact LeV.refl _
end Go.Proofs.YtjedikaidbobdaaGreatDoor

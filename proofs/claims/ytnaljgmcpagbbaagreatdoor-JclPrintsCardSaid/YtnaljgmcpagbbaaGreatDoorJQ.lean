import Derived.Outline
import Derived.Test.YtnaljgmcpagbbaaGreatDoorJS
/- Layer 34: parts, texts, parameters. -/
-- SIMP: beq_self_eq_true, Bool.and_self
namespace Go.Proofs.YtnaljgmcpagbbaaGreatDoor
open Go.RowKit
set_option linter.unusedVariables false
set_option linter.unusedSimpArgs false
def prmC (p : PrmJ) : List V := [.str p.key, .str p.value, strsV p.parts]
def prmV (p : PrmJ) : V := .agg (prmC p)
def prmsV (l : List PrmJ) : V := .sl 3 (l.map prmC)
def stmC (s : StmJ) : List V := [.int .i64 s.line, .str s.name, .str s.op, prmsV s.params, strsV s.data]
def stmV (s : StmJ) : V := .agg (stmC s)
def stmsV (l : List StmJ) : V := .sl 5 (l.map stmC)
attribute [go_sem] prmV prmC prmsV stmV stmC stmsV strsV
theorem headD_getD (s : Jb) : s.headD 0 = s.getD 0 0 := by cases s <;> rfl
theorem lastD_getD (s : Jb) : s.getLastD 0 = s.getD (s.length - 1) 0 := by
  rcases list_snoc s with rfl | ⟨t, x, rfl⟩
  · rfl
  · simp
set_option maxHeartbeats 4000000 in
set_option maxRecDepth 4000 in
theorem Parts_spec (s : Jb) (hs : s.length ≤ 999999990) : Spec Tryz.prog 62 [.str s] (.tup [strsV ((partsJ s).getD []), .bool (partsJ s).isSome]) := by
  have h1 := isValue_spec s (by omega)
  have h2 := split_spec ((s.take (s.length - 1)).drop 1) (by simp; omega)
  have hp : partsJ s = if decide (2 ≤ s.length) && s.getD 0 0 == 40 && s.getD (s.length - 1) 0 == 41 && valueJ s then splitJ ((s.take (s.length - 1)).drop 1) else none := by
    rw [← headD_getD, ← lastD_getD]; rfl
  have e1 : decide ((s.length : Int) < 2) = !decide (2 ≤ s.length) := by
    by_cases h : 2 ≤ s.length
    · rw [decide_eq_false (by omega), decide_eq_true h]; rfl
    · rw [decide_eq_true (by omega), decide_eq_false h]; rfl
  rw [hp]
  by_cases hl : 2 ≤ s.length
  · rw [decide_eq_true hl] at e1 ⊢
    rw [Bool.true_and]
    have hw : IntKind.i64.wrap ((s.length : Int) - 1) = ((s.length - 1 : Nat) : Int) := by rw [wrap_i64 (by omega) (by omega)]; omega
    have e2 : decide ((((s.getD 0 0).toNat : Nat) : Int) = (40 : Int)) = (s.getD 0 0 == 40) := u8eq 40 _
    have e3 : decide ((((s.getD (s.length - 1) 0).toNat : Nat) : Int) = (41 : Int)) = (s.getD (s.length - 1) 0 == 41) := u8eq 41 _
    have hp0 : (0 : Int) < (s.length : Int) := by omega
    have hp1 : ((0 : Int) ≤ ((s.length - 1 : Nat) : Int) ∧ ((s.length - 1 : Nat) : Int) < (s.length : Int)) := by omega
    generalize (s.getD 0 0 == 40) = b2 at e2
    generalize (s.getD (s.length - 1) 0 == 41) = b3 at e3
    generalize valueJ s = b4 at h1
    obtain ⟨R, hR⟩ : ∃ R, (if (b2 && b3 && b4) = true then splitJ ((s.take (s.length - 1)).drop 1) else none) = R := ⟨_, rfl⟩
    rw [hR]
    refine spec_of tt_ok Tryz.func62 rfl (by decide) Tryz.ntmps62 (congrArg Array.toList Tryz.results62) (by simp) (by decide) rfl rfl (fun F hF => ?_)
    refine vwp_seq_k fun Na hNa => vreg tt_ok hF rfl ?_; simp only [go_sem, Int.reduceEq, Int.reduceNe, Int.reduceLT, Int.reduceLE, Nat.reduceEqDiff, Nat.reduceAdd, Nat.reduceMul, Nat.reduceLT, Nat.reduceLeDiff, Nat.reduceSub, reduceCtorEq, reduceIte, Int.reduceToNat, beq_self_eq_true, Bool.and_self]
    refine hNa _ (VWp.keep [0] [] ?_); simp only [go_sem, Int.reduceEq, Int.reduceNe, Int.reduceLT, Int.reduceLE, Nat.reduceEqDiff, Nat.reduceAdd, Nat.reduceMul, Nat.reduceLT, Nat.reduceLeDiff, Nat.reduceSub, reduceCtorEq, reduceIte, Int.reduceToNat, beq_self_eq_true, Bool.and_self]
    refine vwp_seq_k fun Nb hNb => ?_
    refine vmeet (fun z : Bool => [(0, .str s), (24, .bool z)]) (fun _ => []) (fun z => z = !(b2 && b3 && b4)) ?_ ?_
    · cases b2 <;> cases b3
      all_goals
        refine vreg tt_ok hF rfl ?_; simp only [go_sem, Int.reduceEq, Int.reduceNe, Int.reduceLT, Int.reduceLE, Nat.reduceEqDiff, Nat.reduceAdd, Nat.reduceMul, Nat.reduceLT, Nat.reduceLeDiff, Nat.reduceSub, reduceCtorEq, reduceIte, Int.reduceToNat, beq_self_eq_true, Bool.and_self, e1, e2, e3, hp0, hp1, hw]
        try (refine .inl ⟨_, h1, ?_⟩; try simp only [go_sem, Int.reduceEq, Int.reduceNe, Int.reduceLT, Int.reduceLE, Nat.reduceEqDiff, Nat.reduceAdd, Nat.reduceMul, Nat.reduceLT, Nat.reduceLeDiff, Nat.reduceSub, reduceCtorEq, reduceIte, Int.reduceToNat, beq_self_eq_true, Bool.and_self])
        exact ⟨_, rfl, by simp⟩
    intro z hz
    refine vif rfl ⟨fun ht => ?_, fun hf => ?_⟩
    · have hcond : (b2 && b3 && b4) = false := by rw [ht] at hz; revert hz; cases b2 <;> cases b3 <;> cases b4 <;> simp
      rw [hcond] at hR
      simp only [Bool.false_eq_true, if_false] at hR
      subst hR
      refine vwp_seq_k fun Nd hNd => vreg tt_ok hF rfl ?_; simp only [go_sem, Int.reduceEq, Int.reduceNe, Int.reduceLT, Int.reduceLE, Nat.reduceEqDiff, Nat.reduceAdd, Nat.reduceMul, Nat.reduceLT, Nat.reduceLeDiff, Nat.reduceSub, reduceCtorEq, reduceIte, Int.reduceToNat, beq_self_eq_true, Bool.and_self]
      refine hNd _ (VWp.keep [2,3] [] ?_); simp only [go_sem, Int.reduceEq, Int.reduceNe, Int.reduceLT, Int.reduceLE, Nat.reduceEqDiff, Nat.reduceAdd, Nat.reduceMul, Nat.reduceLT, Nat.reduceLeDiff, Nat.reduceSub, reduceCtorEq, reduceIte, Int.reduceToNat, beq_self_eq_true, Bool.and_self]
      refine vwp_ret ?_
      simp only [go_sem, Int.reduceEq, Int.reduceNe, Int.reduceLT, Int.reduceLE, Nat.reduceEqDiff, Nat.reduceAdd, Nat.reduceMul, Nat.reduceLT, Nat.reduceLeDiff, Nat.reduceSub, reduceCtorEq, reduceIte, Int.reduceToNat, beq_self_eq_true, Bool.and_self]
      exact LeV.tup ⟨LeV.nil 1, LeV.refl _, trivial⟩
    · have hcond : (b2 && b3 && b4) = true := by rw [hf] at hz; revert hz; cases b2 <;> cases b3 <;> cases b4 <;> simp
      rw [hcond, if_pos rfl] at hR
      subst hR
      refine vwp_skip (hNb _ ?_)
      refine vwp_seq_k fun Ne hNe => vreg tt_ok hF rfl ?_; simp only [go_sem, Int.reduceEq, Int.reduceNe, Int.reduceLT, Int.reduceLE, Nat.reduceEqDiff, Nat.reduceAdd, Nat.reduceMul, Nat.reduceLT, Nat.reduceLeDiff, Nat.reduceSub, reduceCtorEq, reduceIte, Int.reduceToNat, beq_self_eq_true, Bool.and_self, hw]
      refine ⟨by omega, ?_⟩
      refine .inl ⟨_, h2, ?_⟩; try simp only [go_sem, Int.reduceEq, Int.reduceNe, Int.reduceLT, Int.reduceLE, Nat.reduceEqDiff, Nat.reduceAdd, Nat.reduceMul, Nat.reduceLT, Nat.reduceLeDiff, Nat.reduceSub, reduceCtorEq, reduceIte, Int.reduceToNat, beq_self_eq_true, Bool.and_self]
      refine hNe _ (VWp.keep [2,3] [] ?_); simp only [go_sem, Int.reduceEq, Int.reduceNe, Int.reduceLT, Int.reduceLE, Nat.reduceEqDiff, Nat.reduceAdd, Nat.reduceMul, Nat.reduceLT, Nat.reduceLeDiff, Nat.reduceSub, reduceCtorEq, reduceIte, Int.reduceToNat, beq_self_eq_true, Bool.and_self]
      refine vwp_ret ?_
      simp only [go_sem, Int.reduceEq, Int.reduceNe, Int.reduceLT, Int.reduceLE, Nat.reduceEqDiff, Nat.reduceAdd, Nat.reduceMul, Nat.reduceLT, Nat.reduceLeDiff, Nat.reduceSub, reduceCtorEq, reduceIte, Int.reduceToNat, beq_self_eq_true, Bool.and_self]
      exact LeV.refl _
  · rw [decide_eq_false hl] at e1 ⊢
    refine spec_of tt_ok Tryz.func62 rfl (by decide) Tryz.ntmps62 (congrArg Array.toList Tryz.results62) (by simp) (by decide) rfl rfl (fun F hF => ?_)
    refine vwp_seq_k fun Na hNa => vreg tt_ok hF rfl ?_; simp only [go_sem, Int.reduceEq, Int.reduceNe, Int.reduceLT, Int.reduceLE, Nat.reduceEqDiff, Nat.reduceAdd, Nat.reduceMul, Nat.reduceLT, Nat.reduceLeDiff, Nat.reduceSub, reduceCtorEq, reduceIte, Int.reduceToNat, beq_self_eq_true, Bool.and_self]
    refine hNa _ (VWp.keep [0] [] ?_); simp only [go_sem, Int.reduceEq, Int.reduceNe, Int.reduceLT, Int.reduceLE, Nat.reduceEqDiff, Nat.reduceAdd, Nat.reduceMul, Nat.reduceLT, Nat.reduceLeDiff, Nat.reduceSub, reduceCtorEq, reduceIte, Int.reduceToNat, beq_self_eq_true, Bool.and_self]
    refine vwp_seq_k fun Nb hNb => ?_
    refine vwp_seq_k fun Nc hNc => vreg tt_ok hF rfl ?_; simp only [go_sem, Int.reduceEq, Int.reduceNe, Int.reduceLT, Int.reduceLE, Nat.reduceEqDiff, Nat.reduceAdd, Nat.reduceMul, Nat.reduceLT, Nat.reduceLeDiff, Nat.reduceSub, reduceCtorEq, reduceIte, Int.reduceToNat, beq_self_eq_true, Bool.and_self, e1]
    refine hNc _ (VWp.keep [0,24] [] ?_); simp only [go_sem, Int.reduceEq, Int.reduceNe, Int.reduceLT, Int.reduceLE, Nat.reduceEqDiff, Nat.reduceAdd, Nat.reduceMul, Nat.reduceLT, Nat.reduceLeDiff, Nat.reduceSub, reduceCtorEq, reduceIte, Int.reduceToNat, beq_self_eq_true, Bool.and_self]
    refine vif rfl ⟨fun ht => ?_, fun hf => (by cases hf)⟩
    refine vwp_seq_k fun Nd hNd => vreg tt_ok hF rfl ?_; simp only [go_sem, Int.reduceEq, Int.reduceNe, Int.reduceLT, Int.reduceLE, Nat.reduceEqDiff, Nat.reduceAdd, Nat.reduceMul, Nat.reduceLT, Nat.reduceLeDiff, Nat.reduceSub, reduceCtorEq, reduceIte, Int.reduceToNat, beq_self_eq_true, Bool.and_self]
    refine hNd _ (VWp.keep [2,3] [] ?_); simp only [go_sem, Int.reduceEq, Int.reduceNe, Int.reduceLT, Int.reduceLE, Nat.reduceEqDiff, Nat.reduceAdd, Nat.reduceMul, Nat.reduceLT, Nat.reduceLeDiff, Nat.reduceSub, reduceCtorEq, reduceIte, Int.reduceToNat, beq_self_eq_true, Bool.and_self]
    refine vwp_ret ?_
    simp only [go_sem, Int.reduceEq, Int.reduceNe, Int.reduceLT, Int.reduceLE, Nat.reduceEqDiff, Nat.reduceAdd, Nat.reduceMul, Nat.reduceLT, Nat.reduceLeDiff, Nat.reduceSub, reduceCtorEq, reduceIte, Int.reduceToNat, beq_self_eq_true, Bool.and_self]
    exact LeV.tup ⟨LeV.nil 1, LeV.refl _, trivial⟩
def txtF (σ : Int × Bool) (v : Nat × UInt8 × Int) : Int × Bool := (σ.1 + 1, σ.2 && !(v.2.1 == 40 || v.2.1 == 41))
theorem txtF_fold : ∀ (l : List (Nat × UInt8 × Int)) (σ : Int × Bool), l.foldl txtF σ = (σ.1 + l.length, σ.2 && l.all (fun v => !(v.2.1 == 40 || v.2.1 == 41)))
  | [], σ => by simp
  | v :: l, σ => by
    rw [List.foldl_cons, txtF_fold l, List.all_cons]
    unfold txtF
    simp only [List.length_cons]
    rw [Bool.and_assoc]
    congr 1
    push_cast; omega
set_option maxHeartbeats 4000000 in
set_option maxRecDepth 4000 in
theorem Text1_B (σ : Int × Bool) (i : Nat) (c : UInt8) (d : Int) (hi : 0 ≤ σ.1 ∧ σ.1 ≤ i) (hs : i ≤ 1000000000) : SpecB Tryz.prog 40 [.int .i64 (i : Int), .int .u8 ((c.toNat : Nat) : Int), .int .i64 d, .ptr 1000000 0, .ptr 1000001 0]
    [(1000000, .box 3 [.int .i64 σ.1]), (1000001, .box 4 [.bool σ.2])] (.tup []) [(1000000, .box 3 [.int .i64 (txtF σ (i, c, d)).1]), (1000001, .box 4 [.bool (txtF σ (i, c, d)).2])] := by
  obtain ⟨n, b⟩ := σ
  obtain ⟨h1, h2⟩ := hi
  have h1 : 0 ≤ n := h1
  have h2 : n ≤ i := h2
  have e1 : decide (((c.toNat : Nat) : Int) = (40 : Int)) = (c == 40) := u8eq 40 c
  have e2 : decide (((c.toNat : Nat) : Int) = (41 : Int)) = (c == 41) := u8eq 41 c
  have hf : txtF (n, b) (i, c, d) = (n + 1, b && !(c == 40 || c == 41)) := rfl
  rw [hf]
  have hw : IntKind.i64.wrap (n + 1) = n + 1 := wrap_i64 (by omega) (by omega)
  generalize (c == 40) = b1 at e1
  generalize (c == 41) = b2 at e2
  refine specB_of tt_ok Tryz.func40 rfl (by decide) Tryz.ntmps40 (congrArg Array.toList Tryz.results40) (by simp) (by decide) rfl (by simp only [go_sem, Int.reduceEq, Int.reduceNe, Int.reduceLT, Int.reduceLE, Nat.reduceEqDiff, Nat.reduceAdd, Nat.reduceMul, Nat.reduceLT, Nat.reduceLeDiff, Nat.reduceSub, reduceCtorEq, reduceIte, Int.reduceToNat, beq_self_eq_true, Bool.and_self]) (fun F hF => ?_)
  refine vwp_seq_k fun Na hNa => vreg tt_ok hF rfl ?_; simp only [go_sem, Int.reduceEq, Int.reduceNe, Int.reduceLT, Int.reduceLE, Nat.reduceEqDiff, Nat.reduceAdd, Nat.reduceMul, Nat.reduceLT, Nat.reduceLeDiff, Nat.reduceSub, reduceCtorEq, reduceIte, Int.reduceToNat, beq_self_eq_true, Bool.and_self, hw]
  refine hNa _ (VWp.keep [1,4] [1000000,1000001] ?_); simp only [go_sem, Int.reduceEq, Int.reduceNe, Int.reduceLT, Int.reduceLE, Nat.reduceEqDiff, Nat.reduceAdd, Nat.reduceMul, Nat.reduceLT, Nat.reduceLeDiff, Nat.reduceSub, reduceCtorEq, reduceIte, Int.reduceToNat, beq_self_eq_true, Bool.and_self]
  cases b <;> cases b1 <;> cases b2
  all_goals
    refine vreg tt_ok hF rfl ?_; simp only [go_sem, Int.reduceEq, Int.reduceNe, Int.reduceLT, Int.reduceLE, Nat.reduceEqDiff, Nat.reduceAdd, Nat.reduceMul, Nat.reduceLT, Nat.reduceLeDiff, Nat.reduceSub, reduceCtorEq, reduceIte, Int.reduceToNat, beq_self_eq_true, Bool.and_self, e1, e2]
    first | exact LeV.refl _ | exact ⟨LeV.refl _, by simp⟩
theorem txt_walk (s : Jb) (hs : s.length ≤ 1000000000) : SpecB Tryz.prog 39 [.str s, .fn (.func 40) [.ptr 1000000 0, .ptr 1000001 0]] [(1000000, .box 3 [.int .i64 0]), (1000001, .box 4 [.bool true])] (.bool (balJ s))
    [(1000000, .box 3 [.int .i64 (visJ s).length]), (1000001, .box 4 [.bool ((visJ s).all (fun v => !(v.2.1 == 40 || v.2.1 == 41)))])] := by
  have h := walk_ib _ txtF (fun σ i => 0 ≤ σ.1 ∧ σ.1 ≤ i) s hs (0, true) ⟨Int.le_refl _, Int.le_refl _⟩ (fun σ i h => ⟨h.1, by push_cast; omega⟩) (fun σ i c d h => ⟨by show 0 ≤ σ.1 + 1; omega, by show σ.1 + 1 ≤ _; push_cast; omega⟩) (fun σ i c d h1 _ _ h => Text1_B σ i c d h (by omega))
  rw [txtF_fold] at h
  simpa using h
theorem quo_two (s : Jb) (hb : balJ s = true) (h0 : (visJ s).length = 0) (hn : s.length ≠ 0) : 2 ≤ s.length := by
  match s, hn with
  | [c], _ =>
    exfalso
    unfold balJ visJ at *
    rw [walkJ_step] at hb h0
    split at hb
    · revert hb; decide
    · rename_i h1
      rw [if_neg h1] at h0
      simp only [Bool.false_eq_true, if_false] at hb h0
      split at hb
      · cases hb
      · rename_i h2; rw [if_neg h2] at h0; simp at h0
  | _ :: _ :: _, _ => simp
set_option maxHeartbeats 4000000 in
set_option maxRecDepth 4000 in
theorem Text_spec (s : Jb) (hs : s.length ≤ 1000000) : Spec Tryz.prog 21 [.str s] (.tup [.str ((txtJ s).getD []), .bool (txtJ s).isSome]) := by
  have h0 := txt_walk s (by omega)
  have h1 := isValue_spec s (by omega)
  have hcnt : (visJ s).length ≤ s.length := walkJ_cnt s 0 0 false
  have h2 := ReplaceAll_spec ((s.take (s.length - 1)).drop 1) (by simp; omega)
  have htwo := quo_two s
  have ht : txtJ s = if !(balJ s && valueJ s && (visJ s).all (fun v => !(v.2.1 == 40 || v.2.1 == 41))) then none
    else if (visJ s).length = s.length then some s else if 0 < (visJ s).length then none else some (unqJ ((s.take (s.length - 1)).drop 1)) := rfl
  rw [ht]
  have e1 : decide (((visJ s).length : Int) = (s.length : Int)) = decide ((visJ s).length = s.length) := by apply decide_eq_decide.2; omega
  have e2 : decide ((0 : Int) < ((visJ s).length : Int)) = decide (0 < (visJ s).length) := by apply decide_eq_decide.2; omega
  generalize (visJ s).all (fun v => !(v.2.1 == 40 || v.2.1 == 41)) = b3 at h0
  generalize (visJ s).length = n at *
  generalize balJ s = b1 at h0 htwo
  generalize valueJ s = b2 at h1
  obtain ⟨R, hR⟩ : ∃ R, (if (!(b1 && b2 && b3)) = true then none else if n = s.length then some s else if 0 < n then none else some (unqJ ((s.take (s.length - 1)).drop 1))) = R := ⟨_, rfl⟩
  rw [hR]
  refine spec_of tt_ok Tryz.func21 rfl (by decide) Tryz.ntmps21 (congrArg Array.toList Tryz.results21) (by simp) (by decide) rfl rfl (fun F hF => ?_)
  refine vwp_seq_k fun Na hNa => vreg tt_ok hF rfl ?_; simp only [go_sem, Int.reduceEq, Int.reduceNe, Int.reduceLT, Int.reduceLE, Nat.reduceEqDiff, Nat.reduceAdd, Nat.reduceMul, Nat.reduceLT, Nat.reduceLeDiff, Nat.reduceSub, reduceCtorEq, reduceIte, Int.reduceToNat, beq_self_eq_true, Bool.and_self]
  refine hNa _ (VWp.keepR [0] [] tt_ok hF rfl fun Nb hNb => ?_); simp only [go_sem, Int.reduceEq, Int.reduceNe, Int.reduceLT, Int.reduceLE, Nat.reduceEqDiff, Nat.reduceAdd, Nat.reduceMul, Nat.reduceLT, Nat.reduceLeDiff, Nat.reduceSub, reduceCtorEq, reduceIte, Int.reduceToNat, beq_self_eq_true, Bool.and_self]
  refine hNb _ (VWp.keepR [0,4,5] [4,5] tt_ok hF rfl fun Nc hNc => ?_); simp only [go_sem, Int.reduceEq, Int.reduceNe, Int.reduceLT, Int.reduceLE, Nat.reduceEqDiff, Nat.reduceAdd, Nat.reduceMul, Nat.reduceLT, Nat.reduceLeDiff, Nat.reduceSub, reduceCtorEq, reduceIte, Int.reduceToNat, beq_self_eq_true, Bool.and_self]
  refine .inr (bxo [(1000000, 5), (1000001, 4)] rfl ?_); simp only [go_sem, Int.reduceEq, Int.reduceNe, Int.reduceLT, Int.reduceLE, Nat.reduceEqDiff, Nat.reduceAdd, Nat.reduceMul, Nat.reduceLT, Nat.reduceLeDiff, Nat.reduceSub, reduceCtorEq, reduceIte, Int.reduceToNat, beq_self_eq_true, Bool.and_self]; refine ⟨_, _, h0, ?_⟩; try simp only [go_sem, Int.reduceEq, Int.reduceNe, Int.reduceLT, Int.reduceLE, Nat.reduceEqDiff, Nat.reduceAdd, Nat.reduceMul, Nat.reduceLT, Nat.reduceLeDiff, Nat.reduceSub, reduceCtorEq, reduceIte, Int.reduceToNat, beq_self_eq_true, Bool.and_self]
  refine hNc _ (VWp.keep [0,4,5,6] [4,5] ?_); simp only [go_sem, Int.reduceEq, Int.reduceNe, Int.reduceLT, Int.reduceLE, Nat.reduceEqDiff, Nat.reduceAdd, Nat.reduceMul, Nat.reduceLT, Nat.reduceLeDiff, Nat.reduceSub, reduceCtorEq, reduceIte, Int.reduceToNat, beq_self_eq_true, Bool.and_self]
  refine vwp_seq_k fun Nd hNd => ?_
  refine vmeet (fun z : Bool => [(0, .str s), (5, .ptr 5 0), (20, .bool z)]) (fun _ => [(5, .box 3 [.int .i64 (n : Int)])]) (fun z => z = !(b1 && b2 && b3)) ?_ ?_
  · cases b1 <;> cases b2
    all_goals
      refine vreg tt_ok hF rfl ?_; simp only [go_sem, Int.reduceEq, Int.reduceNe, Int.reduceLT, Int.reduceLE, Nat.reduceEqDiff, Nat.reduceAdd, Nat.reduceMul, Nat.reduceLT, Nat.reduceLeDiff, Nat.reduceSub, reduceCtorEq, reduceIte, Int.reduceToNat, beq_self_eq_true, Bool.and_self]
      try (refine .inl ⟨_, h1, ?_⟩; try simp only [go_sem, Int.reduceEq, Int.reduceNe, Int.reduceLT, Int.reduceLE, Nat.reduceEqDiff, Nat.reduceAdd, Nat.reduceMul, Nat.reduceLT, Nat.reduceLeDiff, Nat.reduceSub, reduceCtorEq, reduceIte, Int.reduceToNat, beq_self_eq_true, Bool.and_self])
      exact ⟨_, rfl, by simp⟩
  intro z hz
  rw [← hz] at hR
  refine vif rfl ⟨fun ht => ?_, fun hf => ?_⟩
  · rw [if_pos ht] at hR
    subst hR
    refine vwp_seq_k fun Nf hNf => vreg tt_ok hF rfl ?_; simp only [go_sem, Int.reduceEq, Int.reduceNe, Int.reduceLT, Int.reduceLE, Nat.reduceEqDiff, Nat.reduceAdd, Nat.reduceMul, Nat.reduceLT, Nat.reduceLeDiff, Nat.reduceSub, reduceCtorEq, reduceIte, Int.reduceToNat, beq_self_eq_true, Bool.and_self]
    refine hNf _ (VWp.keep [2,3] [] ?_); simp only [go_sem, Int.reduceEq, Int.reduceNe, Int.reduceLT, Int.reduceLE, Nat.reduceEqDiff, Nat.reduceAdd, Nat.reduceMul, Nat.reduceLT, Nat.reduceLeDiff, Nat.reduceSub, reduceCtorEq, reduceIte, Int.reduceToNat, beq_self_eq_true, Bool.and_self]
    refine vwp_ret ?_
    simp only [go_sem, Int.reduceEq, Int.reduceNe, Int.reduceLT, Int.reduceLE, Nat.reduceEqDiff, Nat.reduceAdd, Nat.reduceMul, Nat.reduceLT, Nat.reduceLeDiff, Nat.reduceSub, reduceCtorEq, reduceIte, Int.reduceToNat, beq_self_eq_true, Bool.and_self]
    exact LeV.refl _
  · rw [if_neg (by rw [hf]; decide)] at hR
    refine vwp_skip (hNd _ ?_)
    refine vwp_seq_k fun Ng hNg => ?_
    refine vwp_seq_k fun Nh hNh => vreg tt_ok hF rfl ?_; simp only [go_sem, Int.reduceEq, Int.reduceNe, Int.reduceLT, Int.reduceLE, Nat.reduceEqDiff, Nat.reduceAdd, Nat.reduceMul, Nat.reduceLT, Nat.reduceLeDiff, Nat.reduceSub, reduceCtorEq, reduceIte, Int.reduceToNat, beq_self_eq_true, Bool.and_self, e1]
    refine hNh _ (VWp.keep [0,5,24] [5] ?_); simp only [go_sem, Int.reduceEq, Int.reduceNe, Int.reduceLT, Int.reduceLE, Nat.reduceEqDiff, Nat.reduceAdd, Nat.reduceMul, Nat.reduceLT, Nat.reduceLeDiff, Nat.reduceSub, reduceCtorEq, reduceIte, Int.reduceToNat, beq_self_eq_true, Bool.and_self]
    refine vif rfl ⟨fun ht => ?_, fun hf2 => ?_⟩
    · rw [if_pos (of_decide_eq_true ht)] at hR
      subst hR
      refine vwp_seq_k fun Ni hNi => vreg tt_ok hF rfl ?_; simp only [go_sem, Int.reduceEq, Int.reduceNe, Int.reduceLT, Int.reduceLE, Nat.reduceEqDiff, Nat.reduceAdd, Nat.reduceMul, Nat.reduceLT, Nat.reduceLeDiff, Nat.reduceSub, reduceCtorEq, reduceIte, Int.reduceToNat, beq_self_eq_true, Bool.and_self]
      refine hNi _ (VWp.keep [2,3] [] ?_); simp only [go_sem, Int.reduceEq, Int.reduceNe, Int.reduceLT, Int.reduceLE, Nat.reduceEqDiff, Nat.reduceAdd, Nat.reduceMul, Nat.reduceLT, Nat.reduceLeDiff, Nat.reduceSub, reduceCtorEq, reduceIte, Int.reduceToNat, beq_self_eq_true, Bool.and_self]
      refine vwp_ret ?_
      simp only [go_sem, Int.reduceEq, Int.reduceNe, Int.reduceLT, Int.reduceLE, Nat.reduceEqDiff, Nat.reduceAdd, Nat.reduceMul, Nat.reduceLT, Nat.reduceLeDiff, Nat.reduceSub, reduceCtorEq, reduceIte, Int.reduceToNat, beq_self_eq_true, Bool.and_self]
      exact LeV.refl _
    · rw [if_neg (of_decide_eq_false hf2)] at hR
      refine vwp_skip (hNg _ ?_)
      refine vwp_seq_k fun Nj hNj => ?_
      refine vwp_seq_k fun Nk hNk => vreg tt_ok hF rfl ?_; simp only [go_sem, Int.reduceEq, Int.reduceNe, Int.reduceLT, Int.reduceLE, Nat.reduceEqDiff, Nat.reduceAdd, Nat.reduceMul, Nat.reduceLT, Nat.reduceLeDiff, Nat.reduceSub, reduceCtorEq, reduceIte, Int.reduceToNat, beq_self_eq_true, Bool.and_self, e2]
      refine hNk _ (VWp.keep [0,27] [] ?_); simp only [go_sem, Int.reduceEq, Int.reduceNe, Int.reduceLT, Int.reduceLE, Nat.reduceEqDiff, Nat.reduceAdd, Nat.reduceMul, Nat.reduceLT, Nat.reduceLeDiff, Nat.reduceSub, reduceCtorEq, reduceIte, Int.reduceToNat, beq_self_eq_true, Bool.and_self]
      refine vif rfl ⟨fun ht => ?_, fun hf3 => ?_⟩
      · rw [if_pos (of_decide_eq_true ht)] at hR
        subst hR
        refine vwp_seq_k fun Nl hNl => vreg tt_ok hF rfl ?_; simp only [go_sem, Int.reduceEq, Int.reduceNe, Int.reduceLT, Int.reduceLE, Nat.reduceEqDiff, Nat.reduceAdd, Nat.reduceMul, Nat.reduceLT, Nat.reduceLeDiff, Nat.reduceSub, reduceCtorEq, reduceIte, Int.reduceToNat, beq_self_eq_true, Bool.and_self]
        refine hNl _ (VWp.keep [2,3] [] ?_); simp only [go_sem, Int.reduceEq, Int.reduceNe, Int.reduceLT, Int.reduceLE, Nat.reduceEqDiff, Nat.reduceAdd, Nat.reduceMul, Nat.reduceLT, Nat.reduceLeDiff, Nat.reduceSub, reduceCtorEq, reduceIte, Int.reduceToNat, beq_self_eq_true, Bool.and_self]
        refine vwp_ret ?_
        simp only [go_sem, Int.reduceEq, Int.reduceNe, Int.reduceLT, Int.reduceLE, Nat.reduceEqDiff, Nat.reduceAdd, Nat.reduceMul, Nat.reduceLT, Nat.reduceLeDiff, Nat.reduceSub, reduceCtorEq, reduceIte, Int.reduceToNat, beq_self_eq_true, Bool.and_self]
        exact LeV.refl _
      · have hn0 : n = 0 := by have := of_decide_eq_false hf3; omega
        have hb1 : b1 = true := by rw [hf] at hz; revert hz; cases b1 <;> simp
        have hn2 : ¬ n = s.length := of_decide_eq_false hf2
        have h22 := htwo hb1 hn0 (by omega)
        have hw : IntKind.i64.wrap ((s.length : Int) - 1) = ((s.length - 1 : Nat) : Int) := by rw [wrap_i64 (by omega) (by omega)]; omega
        rw [if_neg (of_decide_eq_false hf3)] at hR
        subst hR
        refine vwp_skip (hNj _ ?_)
        refine vwp_seq_k fun Nm hNm => vreg tt_ok hF rfl ?_; simp only [go_sem, Int.reduceEq, Int.reduceNe, Int.reduceLT, Int.reduceLE, Nat.reduceEqDiff, Nat.reduceAdd, Nat.reduceMul, Nat.reduceLT, Nat.reduceLeDiff, Nat.reduceSub, reduceCtorEq, reduceIte, Int.reduceToNat, beq_self_eq_true, Bool.and_self, hw]
        refine ⟨by omega, ?_⟩
        refine .inl ⟨_, h2, ?_⟩; try simp only [go_sem, Int.reduceEq, Int.reduceNe, Int.reduceLT, Int.reduceLE, Nat.reduceEqDiff, Nat.reduceAdd, Nat.reduceMul, Nat.reduceLT, Nat.reduceLeDiff, Nat.reduceSub, reduceCtorEq, reduceIte, Int.reduceToNat, beq_self_eq_true, Bool.and_self]
        refine hNm _ (VWp.keep [2,3] [] ?_); simp only [go_sem, Int.reduceEq, Int.reduceNe, Int.reduceLT, Int.reduceLE, Nat.reduceEqDiff, Nat.reduceAdd, Nat.reduceMul, Nat.reduceLT, Nat.reduceLeDiff, Nat.reduceSub, reduceCtorEq, reduceIte, Int.reduceToNat, beq_self_eq_true, Bool.and_self]
        refine vwp_ret ?_
        simp only [go_sem, Int.reduceEq, Int.reduceNe, Int.reduceLT, Int.reduceLE, Nat.reduceEqDiff, Nat.reduceAdd, Nat.reduceMul, Nat.reduceLT, Nat.reduceLeDiff, Nat.reduceSub, reduceCtorEq, reduceIte, Int.reduceToNat, beq_self_eq_true, Bool.and_self]
        exact LeV.refl _
set_option maxHeartbeats 4000000 in
set_option maxRecDepth 4000 in
theorem isLabel_spec (s : Jb) (hs : s.length ≤ 1000000) : Spec Tryz.prog 24 [.str s] (.bool (labelJ s)) := by
  have h1 := isKey_spec s 2 hs
  rw [keyM_two] at h1
  have e1 : decide (s = ([] : Jb)) = s.isEmpty := by cases s <;> simp
  have hl : labelJ s = (s.isEmpty || (keyJ s && decide ((wordsJ 46 s).length ≤ 2))) := rfl
  rw [hl]
  generalize (keyJ s && decide ((wordsJ 46 s).length ≤ 2)) = b2 at h1
  generalize s.isEmpty = b1 at e1
  refine spec_of tt_ok Tryz.func24 rfl (by decide) Tryz.ntmps24 (congrArg Array.toList Tryz.results24) (by simp) (by decide) rfl rfl (fun F hF => ?_)
  refine vwp_seq_k fun Na hNa => vreg tt_ok hF rfl ?_; simp only [go_sem, Int.reduceEq, Int.reduceNe, Int.reduceLT, Int.reduceLE, Nat.reduceEqDiff, Nat.reduceAdd, Nat.reduceMul, Nat.reduceLT, Nat.reduceLeDiff, Nat.reduceSub, reduceCtorEq, reduceIte, Int.reduceToNat, beq_self_eq_true, Bool.and_self]
  refine hNa _ (VWp.keep [0] [] ?_); simp only [go_sem, Int.reduceEq, Int.reduceNe, Int.reduceLT, Int.reduceLE, Nat.reduceEqDiff, Nat.reduceAdd, Nat.reduceMul, Nat.reduceLT, Nat.reduceLeDiff, Nat.reduceSub, reduceCtorEq, reduceIte, Int.reduceToNat, beq_self_eq_true, Bool.and_self]
  cases b1
  · refine vwp_seq_k fun Nb hNb => vreg tt_ok hF rfl ?_; simp only [go_sem, Int.reduceEq, Int.reduceNe, Int.reduceLT, Int.reduceLE, Nat.reduceEqDiff, Nat.reduceAdd, Nat.reduceMul, Nat.reduceLT, Nat.reduceLeDiff, Nat.reduceSub, reduceCtorEq, reduceIte, Int.reduceToNat, beq_self_eq_true, Bool.and_self, e1]
    refine .inl ⟨_, h1, ?_⟩; try simp only [go_sem, Int.reduceEq, Int.reduceNe, Int.reduceLT, Int.reduceLE, Nat.reduceEqDiff, Nat.reduceAdd, Nat.reduceMul, Nat.reduceLT, Nat.reduceLeDiff, Nat.reduceSub, reduceCtorEq, reduceIte, Int.reduceToNat, beq_self_eq_true, Bool.and_self]
    refine hNb _ (VWp.keep [2] [] ?_); simp only [go_sem, Int.reduceEq, Int.reduceNe, Int.reduceLT, Int.reduceLE, Nat.reduceEqDiff, Nat.reduceAdd, Nat.reduceMul, Nat.reduceLT, Nat.reduceLeDiff, Nat.reduceSub, reduceCtorEq, reduceIte, Int.reduceToNat, beq_self_eq_true, Bool.and_self]
    refine vwp_ret ?_
    simp only [go_sem, Int.reduceEq, Int.reduceNe, Int.reduceLT, Int.reduceLE, Nat.reduceEqDiff, Nat.reduceAdd, Nat.reduceMul, Nat.reduceLT, Nat.reduceLeDiff, Nat.reduceSub, reduceCtorEq, reduceIte, Int.reduceToNat, beq_self_eq_true, Bool.and_self]
    exact LeV.refl _
  · refine vwp_seq_k fun Nb hNb => vreg tt_ok hF rfl ?_; simp only [go_sem, Int.reduceEq, Int.reduceNe, Int.reduceLT, Int.reduceLE, Nat.reduceEqDiff, Nat.reduceAdd, Nat.reduceMul, Nat.reduceLT, Nat.reduceLeDiff, Nat.reduceSub, reduceCtorEq, reduceIte, Int.reduceToNat, beq_self_eq_true, Bool.and_self, e1]
    refine hNb _ (VWp.keep [2] [] ?_); simp only [go_sem, Int.reduceEq, Int.reduceNe, Int.reduceLT, Int.reduceLE, Nat.reduceEqDiff, Nat.reduceAdd, Nat.reduceMul, Nat.reduceLT, Nat.reduceLeDiff, Nat.reduceSub, reduceCtorEq, reduceIte, Int.reduceToNat, beq_self_eq_true, Bool.and_self]
    refine vwp_ret ?_
    simp only [go_sem, Int.reduceEq, Int.reduceNe, Int.reduceLT, Int.reduceLE, Nat.reduceEqDiff, Nat.reduceAdd, Nat.reduceMul, Nat.reduceLT, Nat.reduceLeDiff, Nat.reduceSub, reduceCtorEq, reduceIte, Int.reduceToNat, beq_self_eq_true, Bool.and_self]
    exact LeV.refl _
set_option maxHeartbeats 4000000 in
set_option maxRecDepth 4000 in
theorem Dsn_spec (s : Jb) (hs : s.length ≤ 1000000) : Spec Tryz.prog 23 [.str s] (.bool (dsnJ s)) := by
  have h1 := isKey_spec s (s.length : Int) hs
  rw [keyM_all s _ (Int.le_refl _)] at h1
  have e1 : decide ((s.length : Int) ≤ (44 : Int)) = decide (s.length ≤ 44) := by apply decide_eq_decide.2; omega
  have hl : dsnJ s = (decide (s.length ≤ 44) && keyJ s) := rfl
  rw [hl]
  generalize decide (s.length ≤ 44) = b1 at e1
  refine spec_of tt_ok Tryz.func23 rfl (by decide) Tryz.ntmps23 (congrArg Array.toList Tryz.results23) (by simp) (by decide) rfl rfl (fun F hF => ?_)
  refine vwp_seq_k fun Na hNa => vreg tt_ok hF rfl ?_; simp only [go_sem, Int.reduceEq, Int.reduceNe, Int.reduceLT, Int.reduceLE, Nat.reduceEqDiff, Nat.reduceAdd, Nat.reduceMul, Nat.reduceLT, Nat.reduceLeDiff, Nat.reduceSub, reduceCtorEq, reduceIte, Int.reduceToNat, beq_self_eq_true, Bool.and_self]
  refine hNa _ (VWp.keep [0] [] ?_); simp only [go_sem, Int.reduceEq, Int.reduceNe, Int.reduceLT, Int.reduceLE, Nat.reduceEqDiff, Nat.reduceAdd, Nat.reduceMul, Nat.reduceLT, Nat.reduceLeDiff, Nat.reduceSub, reduceCtorEq, reduceIte, Int.reduceToNat, beq_self_eq_true, Bool.and_self]
  cases b1
  · refine vwp_seq_k fun Nb hNb => vreg tt_ok hF rfl ?_; simp only [go_sem, Int.reduceEq, Int.reduceNe, Int.reduceLT, Int.reduceLE, Nat.reduceEqDiff, Nat.reduceAdd, Nat.reduceMul, Nat.reduceLT, Nat.reduceLeDiff, Nat.reduceSub, reduceCtorEq, reduceIte, Int.reduceToNat, beq_self_eq_true, Bool.and_self, e1]
    refine hNb _ (VWp.keep [2] [] ?_); simp only [go_sem, Int.reduceEq, Int.reduceNe, Int.reduceLT, Int.reduceLE, Nat.reduceEqDiff, Nat.reduceAdd, Nat.reduceMul, Nat.reduceLT, Nat.reduceLeDiff, Nat.reduceSub, reduceCtorEq, reduceIte, Int.reduceToNat, beq_self_eq_true, Bool.and_self]
    refine vwp_ret ?_
    simp only [go_sem, Int.reduceEq, Int.reduceNe, Int.reduceLT, Int.reduceLE, Nat.reduceEqDiff, Nat.reduceAdd, Nat.reduceMul, Nat.reduceLT, Nat.reduceLeDiff, Nat.reduceSub, reduceCtorEq, reduceIte, Int.reduceToNat, beq_self_eq_true, Bool.and_self]
    exact LeV.refl _
  · refine vwp_seq_k fun Nb hNb => vreg tt_ok hF rfl ?_; simp only [go_sem, Int.reduceEq, Int.reduceNe, Int.reduceLT, Int.reduceLE, Nat.reduceEqDiff, Nat.reduceAdd, Nat.reduceMul, Nat.reduceLT, Nat.reduceLeDiff, Nat.reduceSub, reduceCtorEq, reduceIte, Int.reduceToNat, beq_self_eq_true, Bool.and_self, e1]
    refine .inl ⟨_, h1, ?_⟩; try simp only [go_sem, Int.reduceEq, Int.reduceNe, Int.reduceLT, Int.reduceLE, Nat.reduceEqDiff, Nat.reduceAdd, Nat.reduceMul, Nat.reduceLT, Nat.reduceLeDiff, Nat.reduceSub, reduceCtorEq, reduceIte, Int.reduceToNat, beq_self_eq_true, Bool.and_self]
    refine hNb _ (VWp.keep [2] [] ?_); simp only [go_sem, Int.reduceEq, Int.reduceNe, Int.reduceLT, Int.reduceLE, Nat.reduceEqDiff, Nat.reduceAdd, Nat.reduceMul, Nat.reduceLT, Nat.reduceLeDiff, Nat.reduceSub, reduceCtorEq, reduceIte, Int.reduceToNat, beq_self_eq_true, Bool.and_self]
    refine vwp_ret ?_
    simp only [go_sem, Int.reduceEq, Int.reduceNe, Int.reduceLT, Int.reduceLE, Nat.reduceEqDiff, Nat.reduceAdd, Nat.reduceMul, Nat.reduceLT, Nat.reduceLeDiff, Nat.reduceSub, reduceCtorEq, reduceIte, Int.reduceToNat, beq_self_eq_true, Bool.and_self]
    exact LeV.refl _
end Go.Proofs.YtnaljgmcpagbbaaGreatDoor

import Derived.Outline
import Derived.Test.YtnaljgmcpagbbaaGreatDoorJT
import Derived.Test.YtnaljgmcpagbbaaGreatDoorJE
import Derived.Test.YtnaljgmcpagbbaaGreatDoorVW
/- Layer 34: the reader. -/
-- SIMP: beq_self_eq_true, Bool.and_self, List.take_length
namespace Go.Proofs.YtnaljgmcpagbbaaGreatDoor
open Go.RowKit
set_option linter.unusedVariables false
set_option linter.unusedSimpArgs false
def contV (R : Nat ⊕ (Jb × List Jb × Nat)) : V := match R with
  | .inl b => .tup [.str [], .int .i64 (b : Int)]
  | .inr (g, _, _) => .tup [.str g, .int .i64 0]
def contI (R : Nat ⊕ (Jb × List Jb × Nat)) : Nat := match R with
  | .inl b => b
  | .inr (_, _, i) => i
theorem drop_cons (L : List Jb) (j : Nat) {l : Jb} (h : L[j]? = some l) : L.drop j = l :: L.drop (j + 1) := by
  obtain ⟨h1, h2⟩ := List.getElem?_eq_some_iff.1 h
  rw [List.drop_eq_getElem_cons h1, h2]
theorem contJ_cons (n : Nat) (l : Jb) (t : List Jb) (i : Nat) : contJ n (l :: t) i = if begJ l [47, 47, 42] && cardJ l then contJ n t (i + 1)
    else if !(cardJ l && begJ l [47, 47, 32]) then .inl (i + 1)
    else if !(operJ (blankJ (l.drop 2)) false).2 || (operJ (blankJ (l.drop 2)) false).1.isEmpty then .inl (i + 1)
    else .inr ((operJ (blankJ (l.drop 2)) false).1, t, i + 1) := rfl
theorem blank_len (s : Jb) : (blankJ s).length ≤ s.length := by
  unfold blankJ
  induction s with
  | nil => simp
  | cons c t ih => rw [List.dropWhile_cons]; split <;> simp only [List.length_cons] <;> omega
set_option maxHeartbeats 8000000 in
set_option maxRecDepth 4000 in
theorem continued_B (L : List Jb) (i : Nat) (hi : i ≤ L.length) (hL : L.length ≤ 1000000000) (hl : ∀ l ∈ L, l.length ≤ 1000000) :
    SpecB Tryz.prog 56 [.ptr 1000000 0] [(1000000, .box 54 [strsV L, .int .i64 (i : Int)])] (contV (contJ L.length (L.drop i) i)) [(1000000, .box 54 [strsV L, .int .i64 (contI (contJ L.length (L.drop i) i) : Int)])] := by
  obtain ⟨R, hR⟩ : ∃ R, contJ L.length (L.drop i) i = R := ⟨_, rfl⟩
  rw [hR]
  refine specB_of tt_ok Tryz.func56 rfl (by decide) Tryz.ntmps56 (congrArg Array.toList Tryz.results56) (by simp) (by decide) rfl (by cases R <;> simp only [contV, go_sem, Int.reduceEq, Int.reduceNe, Int.reduceLT, Int.reduceLE, Nat.reduceEqDiff, Nat.reduceAdd, Nat.reduceMul, Nat.reduceLT, Nat.reduceLeDiff, Nat.reduceSub, reduceCtorEq, reduceIte, Int.reduceToNat, beq_self_eq_true, Bool.and_self, List.take_length]) (fun F hF => ?_)
  refine vwp_seq_k fun Na hNa => vreg tt_ok hF rfl ?_; simp only [go_sem, Int.reduceEq, Int.reduceNe, Int.reduceLT, Int.reduceLE, Nat.reduceEqDiff, Nat.reduceAdd, Nat.reduceMul, Nat.reduceLT, Nat.reduceLeDiff, Nat.reduceSub, reduceCtorEq, reduceIte, Int.reduceToNat, beq_self_eq_true, Bool.and_self, List.take_length]
  refine hNa _ (VWp.keep [0] [1000000] ?_); simp only [go_sem, Int.reduceEq, Int.reduceNe, Int.reduceLT, Int.reduceLE, Nat.reduceEqDiff, Nat.reduceAdd, Nat.reduceMul, Nat.reduceLT, Nat.reduceLeDiff, Nat.reduceSub, reduceCtorEq, reduceIte, Int.reduceToNat, beq_self_eq_true, Bool.and_self, List.take_length]
  refine vwp_seq_k fun Nb hNb => ?_
  refine vwp_block (vloop (fun j : Nat => [(0, .ptr 1000000 0)]) (fun j => [(1000000, .box 54 [strsV L, .int .i64 (j : Int)])]) (fun j => j ≤ L.length ∧ contJ L.length (L.drop j) j = R) (fun j => L.length - j) i ⟨hi, hR⟩ (by simp only [go_sem, Int.reduceEq, Int.reduceNe, Int.reduceLT, Int.reduceLE, Nat.reduceEqDiff, Nat.reduceAdd, Nat.reduceMul, Nat.reduceLT, Nat.reduceLeDiff, Nat.reduceSub, reduceCtorEq, reduceIte, Int.reduceToNat, beq_self_eq_true, Bool.and_self, List.take_length]) ?_)
  rintro j ⟨hj, hRj⟩
  refine vwp_seq_k fun Nc hNc => ?_
  refine vmeet (fun z : Bool => [(0, .ptr 1000000 0), (42, .bool z)]) (fun _ => [(1000000, .box 54 [strsV L, .int .i64 (j : Int)])]) (fun z => z = match L[j]? with | some l => begJ l [47, 47, 42] && cardJ l | none => false) ?_ ?_
  · cases hg : L[j]? with
    | none =>
      have hge : L.length ≤ j := List.getElem?_eq_none_iff.1 hg
      have e0 : decide ((j : Int) < (L.length : Int)) = false := decide_eq_false (by omega)
      refine vregd tt_ok mixed hF rfl (by kernel_rfl) (by kernel_rfl) ?_; simp only [go_sem, Int.reduceEq, Int.reduceNe, Int.reduceLT, Int.reduceLE, Nat.reduceEqDiff, Nat.reduceAdd, Nat.reduceMul, Nat.reduceLT, Nat.reduceLeDiff, Nat.reduceSub, reduceCtorEq, reduceIte, Int.reduceToNat, beq_self_eq_true, Bool.and_self, List.take_length, List.length_map, e0]
      exact ⟨_, rfl, by simp⟩
    | some l =>
      have hlt : j < L.length := (List.getElem?_eq_some_iff.1 hg).1
      have hll := hl l (List.mem_of_getElem? hg)
      have e0 : decide ((j : Int) < (L.length : Int)) = true := decide_eq_true (by omega)
      have hp : (0 : Int) ≤ (j : Int) ∧ (j : Int) < (L.length : Int) := ⟨by omega, by omega⟩
      have hrow : (L.map fun w => [V.str w]).getD j [] = [.str l] := by simp [hg]
      have h1 := HasPrefix_spec l [47, 47, 42]
      have h2 := isCard_spec l (by omega)
      generalize hb1 : begJ l [47, 47, 42] = b1 at h1
      generalize hb2 : cardJ l = b2 at h2
      cases b1
      · refine vregd tt_ok mixed hF rfl (by kernel_rfl) (by kernel_rfl) ?_; simp only [go_sem, Int.reduceEq, Int.reduceNe, Int.reduceLT, Int.reduceLE, Nat.reduceEqDiff, Nat.reduceAdd, Nat.reduceMul, Nat.reduceLT, Nat.reduceLeDiff, Nat.reduceSub, reduceCtorEq, reduceIte, Int.reduceToNat, beq_self_eq_true, Bool.and_self, List.take_length, List.length_map, e0, hp, hrow]
        refine .inl ⟨_, h1, ?_⟩; try simp only [go_sem, Int.reduceEq, Int.reduceNe, Int.reduceLT, Int.reduceLE, Nat.reduceEqDiff, Nat.reduceAdd, Nat.reduceMul, Nat.reduceLT, Nat.reduceLeDiff, Nat.reduceSub, reduceCtorEq, reduceIte, Int.reduceToNat, beq_self_eq_true, Bool.and_self, List.take_length]
        exact ⟨_, rfl, by simp [hb1]⟩
      · refine vregd tt_ok mixed hF rfl (by kernel_rfl) (by kernel_rfl) ?_; simp only [go_sem, Int.reduceEq, Int.reduceNe, Int.reduceLT, Int.reduceLE, Nat.reduceEqDiff, Nat.reduceAdd, Nat.reduceMul, Nat.reduceLT, Nat.reduceLeDiff, Nat.reduceSub, reduceCtorEq, reduceIte, Int.reduceToNat, beq_self_eq_true, Bool.and_self, List.take_length, List.length_map, e0, hp, hrow]
        refine .inl ⟨_, h1, ?_⟩; try simp only [go_sem, Int.reduceEq, Int.reduceNe, Int.reduceLT, Int.reduceLE, Nat.reduceEqDiff, Nat.reduceAdd, Nat.reduceMul, Nat.reduceLT, Nat.reduceLeDiff, Nat.reduceSub, reduceCtorEq, reduceIte, Int.reduceToNat, beq_self_eq_true, Bool.and_self, List.take_length, List.length_map, hp, hrow]
        refine .inl ⟨_, h2, ?_⟩; try simp only [go_sem, Int.reduceEq, Int.reduceNe, Int.reduceLT, Int.reduceLE, Nat.reduceEqDiff, Nat.reduceAdd, Nat.reduceMul, Nat.reduceLT, Nat.reduceLeDiff, Nat.reduceSub, reduceCtorEq, reduceIte, Int.reduceToNat, beq_self_eq_true, Bool.and_self, List.take_length]
        exact ⟨_, by simp [hb1, hb2], rfl⟩
  intro z hz
  refine vif rfl ⟨fun ht => ?_, fun hf => ?_⟩
  · obtain ⟨l, hg⟩ : ∃ l, L[j]? = some l := by
      cases hg : L[j]? with
      | none => rw [hg, ht] at hz; cases hz
      | some l => exact ⟨l, rfl⟩
    have hlt : j < L.length := (List.getElem?_eq_some_iff.1 hg).1
    rw [hg, ht] at hz
    rw [drop_cons L j hg, contJ_cons, if_pos hz.symm] at hRj
    refine vwp_skip (hNc _ ?_)
    refine vwp_block ?_
    refine vreg tt_ok hF rfl ?_; simp only [go_sem, Int.reduceEq, Int.reduceNe, Int.reduceLT, Int.reduceLE, Nat.reduceEqDiff, Nat.reduceAdd, Nat.reduceMul, Nat.reduceLT, Nat.reduceLeDiff, Nat.reduceSub, reduceCtorEq, reduceIte, Int.reduceToNat, beq_self_eq_true, Bool.and_self, List.take_length]
    rw [wrap_i64 (by omega) (by omega)]
    exact ⟨j + 1, ⟨by omega, hRj⟩, by omega, by simp⟩
  · refine vwp_exit ?_
    simp only [go_sem, Int.reduceEq, Int.reduceNe, Int.reduceLT, Int.reduceLE, Nat.reduceEqDiff, Nat.reduceAdd, Nat.reduceMul, Nat.reduceLT, Nat.reduceLeDiff, Nat.reduceSub, reduceCtorEq, reduceIte, Int.reduceToNat, beq_self_eq_true, Bool.and_self, List.take_length]
    refine hNb _ (VWp.keep [0] [1000000] ?_); simp only [go_sem, Int.reduceEq, Int.reduceNe, Int.reduceLT, Int.reduceLE, Nat.reduceEqDiff, Nat.reduceAdd, Nat.reduceMul, Nat.reduceLT, Nat.reduceLeDiff, Nat.reduceSub, reduceCtorEq, reduceIte, Int.reduceToNat, beq_self_eq_true, Bool.and_self, List.take_length]
    refine vwp_seq_k fun Ne hNe => ?_
    cases hg : L[j]? with
    | none =>
      have hge : L.length ≤ j := List.getElem?_eq_none_iff.1 hg
      obtain rfl : j = L.length := by omega
      rw [List.drop_length] at hRj
      have hRj : Sum.inl L.length = R := hRj
      subst hRj
      have e0 : decide ((L.length : Int) ≤ (L.length : Int)) = true := decide_eq_true (by omega)
      refine vwp_seq_k fun Nf hNf => vregd tt_ok mixed hF rfl (by kernel_rfl) (by kernel_rfl) ?_; simp only [go_sem, Int.reduceEq, Int.reduceNe, Int.reduceLT, Int.reduceLE, Nat.reduceEqDiff, Nat.reduceAdd, Nat.reduceMul, Nat.reduceLT, Nat.reduceLeDiff, Nat.reduceSub, reduceCtorEq, reduceIte, Int.reduceToNat, beq_self_eq_true, Bool.and_self, List.take_length, List.length_map, e0]
      refine hNf _ (VWp.keep [0,59] [1000000] ?_); simp only [go_sem, Int.reduceEq, Int.reduceNe, Int.reduceLT, Int.reduceLE, Nat.reduceEqDiff, Nat.reduceAdd, Nat.reduceMul, Nat.reduceLT, Nat.reduceLeDiff, Nat.reduceSub, reduceCtorEq, reduceIte, Int.reduceToNat, beq_self_eq_true, Bool.and_self, List.take_length]
      refine vif rfl ⟨fun ht => ?_, fun hf => (by cases hf)⟩
      refine vwp_seq_k fun Ng hNg => vregd tt_ok mixed hF rfl (by kernel_rfl) (by kernel_rfl) ?_; simp only [go_sem, Int.reduceEq, Int.reduceNe, Int.reduceLT, Int.reduceLE, Nat.reduceEqDiff, Nat.reduceAdd, Nat.reduceMul, Nat.reduceLT, Nat.reduceLeDiff, Nat.reduceSub, reduceCtorEq, reduceIte, Int.reduceToNat, beq_self_eq_true, Bool.and_self, List.take_length, List.length_map]
      refine hNg _ (VWp.keep [2,3] [1000000] ?_); simp only [go_sem, Int.reduceEq, Int.reduceNe, Int.reduceLT, Int.reduceLE, Nat.reduceEqDiff, Nat.reduceAdd, Nat.reduceMul, Nat.reduceLT, Nat.reduceLeDiff, Nat.reduceSub, reduceCtorEq, reduceIte, Int.reduceToNat, beq_self_eq_true, Bool.and_self, List.take_length]
      refine vwp_ret ?_
      simp only [go_sem, Int.reduceEq, Int.reduceNe, Int.reduceLT, Int.reduceLE, Nat.reduceEqDiff, Nat.reduceAdd, Nat.reduceMul, Nat.reduceLT, Nat.reduceLeDiff, Nat.reduceSub, reduceCtorEq, reduceIte, Int.reduceToNat, beq_self_eq_true, Bool.and_self, List.take_length]
      exact ⟨LeV.refl _, rfl⟩
    | some l =>
      have hlt : j < L.length := (List.getElem?_eq_some_iff.1 hg).1
      have hll := hl l (List.mem_of_getElem? hg)
      have e0 : decide ((L.length : Int) ≤ (j : Int)) = false := decide_eq_false (by omega)
      have hp : (0 : Int) ≤ (j : Int) ∧ (j : Int) < (L.length : Int) := ⟨by omega, by omega⟩
      have hrow : (L.map fun w => [V.str w]).getD j [] = [.str l] := by simp [hg]
      have hw : IntKind.i64.wrap ((j : Int) + 1) = ((j + 1 : Nat) : Int) := by rw [wrap_i64 (by omega) (by omega)]; rfl
      rw [hg, hf] at hz
      have hz : false = (begJ l [47, 47, 42] && cardJ l) := hz
      have hzn : ¬ (begJ l [47, 47, 42] && cardJ l) = true := by rw [← hz]; decide
      rw [drop_cons L j hg, contJ_cons, if_neg hzn] at hRj
      refine vwp_seq_k fun Nf hNf => vregd tt_ok mixed hF rfl (by kernel_rfl) (by kernel_rfl) ?_; simp only [go_sem, Int.reduceEq, Int.reduceNe, Int.reduceLT, Int.reduceLE, Nat.reduceEqDiff, Nat.reduceAdd, Nat.reduceMul, Nat.reduceLT, Nat.reduceLeDiff, Nat.reduceSub, reduceCtorEq, reduceIte, Int.reduceToNat, beq_self_eq_true, Bool.and_self, List.take_length, List.length_map, e0]
      refine hNf _ (VWp.keep [0,59] [1000000] ?_); simp only [go_sem, Int.reduceEq, Int.reduceNe, Int.reduceLT, Int.reduceLE, Nat.reduceEqDiff, Nat.reduceAdd, Nat.reduceMul, Nat.reduceLT, Nat.reduceLeDiff, Nat.reduceSub, reduceCtorEq, reduceIte, Int.reduceToNat, beq_self_eq_true, Bool.and_self, List.take_length]
      refine vif rfl ⟨fun ht => (by cases ht), fun hf => ?_⟩
      refine vwp_skip (hNe _ ?_)
      refine vwp_seq_k fun Nh hNh => vregd tt_ok mixed hF rfl (by kernel_rfl) (by kernel_rfl) ?_; simp only [go_sem, Int.reduceEq, Int.reduceNe, Int.reduceLT, Int.reduceLE, Nat.reduceEqDiff, Nat.reduceAdd, Nat.reduceMul, Nat.reduceLT, Nat.reduceLeDiff, Nat.reduceSub, reduceCtorEq, reduceIte, Int.reduceToNat, beq_self_eq_true, Bool.and_self, List.take_length, List.length_map, hp, hrow]
      refine hNh _ (VWp.keep [0,4] [1000000] ?_); simp only [go_sem, Int.reduceEq, Int.reduceNe, Int.reduceLT, Int.reduceLE, Nat.reduceEqDiff, Nat.reduceAdd, Nat.reduceMul, Nat.reduceLT, Nat.reduceLeDiff, Nat.reduceSub, reduceCtorEq, reduceIte, Int.reduceToNat, beq_self_eq_true, Bool.and_self, List.take_length]
      refine vwp_seq_k fun Ni hNi => vreg tt_ok hF rfl ?_; simp only [go_sem, Int.reduceEq, Int.reduceNe, Int.reduceLT, Int.reduceLE, Nat.reduceEqDiff, Nat.reduceAdd, Nat.reduceMul, Nat.reduceLT, Nat.reduceLeDiff, Nat.reduceSub, reduceCtorEq, reduceIte, Int.reduceToNat, beq_self_eq_true, Bool.and_self, List.take_length, hw]
      refine hNi _ (VWp.keep [0,4] [1000000] ?_); simp only [go_sem, Int.reduceEq, Int.reduceNe, Int.reduceLT, Int.reduceLE, Nat.reduceEqDiff, Nat.reduceAdd, Nat.reduceMul, Nat.reduceLT, Nat.reduceLeDiff, Nat.reduceSub, reduceCtorEq, reduceIte, Int.reduceToNat, beq_self_eq_true, Bool.and_self, List.take_length]
      refine vwp_seq_k fun Nj hNj => ?_
      have h1 := isCard_spec l (by omega)
      have h2 := HasPrefix_spec l [47, 47, 32]
      have h3 := TrimLeft_spec (l.drop 2)
      have hbl := blank_len (l.drop 2)
      have hdl : (l.drop 2).length = l.length - 2 := List.length_drop
      have h4 := operands_spec (blankJ (l.drop 2)) (by omega)
      have hlen := beg_len l [47, 47, 32]
      generalize cardJ l = b1 at h1 hRj
      generalize begJ l [47, 47, 32] = b2 at h2 hRj hlen
      generalize operJ (blankJ (l.drop 2)) false = og at h4 hRj
      obtain ⟨g, ok⟩ := og
      refine vmeet (fun z : Bool => [(0, .ptr 1000000 0), (4, .str l), (89, .bool z)]) (fun _ => [(1000000, .box 54 [strsV L, .int .i64 ((j + 1 : Nat) : Int)])]) (fun z => z = !(b1 && b2)) ?_ ?_
      · cases b1 <;> cases b2
        all_goals
          refine vreg tt_ok hF rfl ?_; simp only [go_sem, Int.reduceEq, Int.reduceNe, Int.reduceLT, Int.reduceLE, Nat.reduceEqDiff, Nat.reduceAdd, Nat.reduceMul, Nat.reduceLT, Nat.reduceLeDiff, Nat.reduceSub, reduceCtorEq, reduceIte, Int.reduceToNat, beq_self_eq_true, Bool.and_self, List.take_length]
          refine .inl ⟨_, h1, ?_⟩; try simp only [go_sem, Int.reduceEq, Int.reduceNe, Int.reduceLT, Int.reduceLE, Nat.reduceEqDiff, Nat.reduceAdd, Nat.reduceMul, Nat.reduceLT, Nat.reduceLeDiff, Nat.reduceSub, reduceCtorEq, reduceIte, Int.reduceToNat, beq_self_eq_true, Bool.and_self, List.take_length]
          try (refine .inl ⟨_, h2, ?_⟩; try simp only [go_sem, Int.reduceEq, Int.reduceNe, Int.reduceLT, Int.reduceLE, Nat.reduceEqDiff, Nat.reduceAdd, Nat.reduceMul, Nat.reduceLT, Nat.reduceLeDiff, Nat.reduceSub, reduceCtorEq, reduceIte, Int.reduceToNat, beq_self_eq_true, Bool.and_self, List.take_length])
          exact ⟨_, rfl, by simp⟩
      intro y hy
      refine vif rfl ⟨fun ht => ?_, fun hf => ?_⟩
      · rw [if_pos (by rw [← hy]; exact ht)] at hRj
        subst hRj
        refine vwp_seq_k fun Nl hNl => vregd tt_ok mixed hF rfl (by kernel_rfl) (by kernel_rfl) ?_; simp only [go_sem, Int.reduceEq, Int.reduceNe, Int.reduceLT, Int.reduceLE, Nat.reduceEqDiff, Nat.reduceAdd, Nat.reduceMul, Nat.reduceLT, Nat.reduceLeDiff, Nat.reduceSub, reduceCtorEq, reduceIte, Int.reduceToNat, beq_self_eq_true, Bool.and_self, List.take_length]
        refine hNl _ (VWp.keep [2,3] [1000000] ?_); simp only [go_sem, Int.reduceEq, Int.reduceNe, Int.reduceLT, Int.reduceLE, Nat.reduceEqDiff, Nat.reduceAdd, Nat.reduceMul, Nat.reduceLT, Nat.reduceLeDiff, Nat.reduceSub, reduceCtorEq, reduceIte, Int.reduceToNat, beq_self_eq_true, Bool.and_self, List.take_length]
        refine vwp_ret ?_
        simp only [go_sem, Int.reduceEq, Int.reduceNe, Int.reduceLT, Int.reduceLE, Nat.reduceEqDiff, Nat.reduceAdd, Nat.reduceMul, Nat.reduceLT, Nat.reduceLeDiff, Nat.reduceSub, reduceCtorEq, reduceIte, Int.reduceToNat, beq_self_eq_true, Bool.and_self, List.take_length]
        exact ⟨LeV.refl _, rfl⟩
      · rw [if_neg (by rw [← hy, hf]; decide)] at hRj
        have hb2 : b2 = true := by rw [hf] at hy; revert hy; cases b1 <;> cases b2 <;> simp
        have hl3 : 3 ≤ l.length := hlen hb2
        refine vwp_skip (hNj _ ?_)
        refine vwp_seq_k fun Nm hNm => vreg tt_ok hF rfl ?_; simp only [go_sem, Int.reduceEq, Int.reduceNe, Int.reduceLT, Int.reduceLE, Nat.reduceEqDiff, Nat.reduceAdd, Nat.reduceMul, Nat.reduceLT, Nat.reduceLeDiff, Nat.reduceSub, reduceCtorEq, reduceIte, Int.reduceToNat, beq_self_eq_true, Bool.and_self, List.take_length]
        refine ⟨by omega, ?_⟩
        refine .inl ⟨_, h3, ?_⟩; simp only [go_sem, Int.reduceEq, Int.reduceNe, Int.reduceLT, Int.reduceLE, Nat.reduceEqDiff, Nat.reduceAdd, Nat.reduceMul, Nat.reduceLT, Nat.reduceLeDiff, Nat.reduceSub, reduceCtorEq, reduceIte, Int.reduceToNat, beq_self_eq_true, Bool.and_self, List.take_length]
        refine .inl ⟨_, h4, ?_⟩; simp only [go_sem, Int.reduceEq, Int.reduceNe, Int.reduceLT, Int.reduceLE, Nat.reduceEqDiff, Nat.reduceAdd, Nat.reduceMul, Nat.reduceLT, Nat.reduceLeDiff, Nat.reduceSub, reduceCtorEq, reduceIte, Int.reduceToNat, beq_self_eq_true, Bool.and_self, List.take_length]
        refine hNm _ (VWp.keep [0,5,6] [1000000] ?_); simp only [go_sem, Int.reduceEq, Int.reduceNe, Int.reduceLT, Int.reduceLE, Nat.reduceEqDiff, Nat.reduceAdd, Nat.reduceMul, Nat.reduceLT, Nat.reduceLeDiff, Nat.reduceSub, reduceCtorEq, reduceIte, Int.reduceToNat, beq_self_eq_true, Bool.and_self, List.take_length]
        refine vwp_seq_k fun Nn hNn => ?_
        have e1 : decide (g = ([] : Jb)) = g.isEmpty := by cases g <;> simp
        generalize hge : g.isEmpty = b4 at e1 hRj
        refine vmeet (fun z : Bool => [(0, .ptr 1000000 0), (5, .str g), (106, .bool z)]) (fun _ => [(1000000, .box 54 [strsV L, .int .i64 ((j + 1 : Nat) : Int)])]) (fun z => z = (!ok || b4)) ?_ ?_
        · cases ok
          all_goals
            refine vreg tt_ok hF rfl ?_; simp only [go_sem, Int.reduceEq, Int.reduceNe, Int.reduceLT, Int.reduceLE, Nat.reduceEqDiff, Nat.reduceAdd, Nat.reduceMul, Nat.reduceLT, Nat.reduceLeDiff, Nat.reduceSub, reduceCtorEq, reduceIte, Int.reduceToNat, beq_self_eq_true, Bool.and_self, List.take_length, e1]
            exact ⟨_, rfl, by simp⟩
        intro x hx
        refine vif rfl ⟨fun ht => ?_, fun hf => ?_⟩
        · rw [if_pos (by rw [← hx]; exact ht)] at hRj
          subst hRj
          refine vwp_seq_k fun Np hNp => vregd tt_ok mixed hF rfl (by kernel_rfl) (by kernel_rfl) ?_; simp only [go_sem, Int.reduceEq, Int.reduceNe, Int.reduceLT, Int.reduceLE, Nat.reduceEqDiff, Nat.reduceAdd, Nat.reduceMul, Nat.reduceLT, Nat.reduceLeDiff, Nat.reduceSub, reduceCtorEq, reduceIte, Int.reduceToNat, beq_self_eq_true, Bool.and_self, List.take_length]
          refine hNp _ (VWp.keep [2,3] [1000000] ?_); simp only [go_sem, Int.reduceEq, Int.reduceNe, Int.reduceLT, Int.reduceLE, Nat.reduceEqDiff, Nat.reduceAdd, Nat.reduceMul, Nat.reduceLT, Nat.reduceLeDiff, Nat.reduceSub, reduceCtorEq, reduceIte, Int.reduceToNat, beq_self_eq_true, Bool.and_self, List.take_length]
          refine vwp_ret ?_
          simp only [go_sem, Int.reduceEq, Int.reduceNe, Int.reduceLT, Int.reduceLE, Nat.reduceEqDiff, Nat.reduceAdd, Nat.reduceMul, Nat.reduceLT, Nat.reduceLeDiff, Nat.reduceSub, reduceCtorEq, reduceIte, Int.reduceToNat, beq_self_eq_true, Bool.and_self, List.take_length]
          exact ⟨LeV.refl _, rfl⟩
        · rw [if_neg (by rw [← hx, hf]; decide)] at hRj
          subst hRj
          refine vwp_skip (hNn _ ?_)
          refine vwp_seq_k fun Nq hNq => vreg tt_ok hF rfl ?_; simp only [go_sem, Int.reduceEq, Int.reduceNe, Int.reduceLT, Int.reduceLE, Nat.reduceEqDiff, Nat.reduceAdd, Nat.reduceMul, Nat.reduceLT, Nat.reduceLeDiff, Nat.reduceSub, reduceCtorEq, reduceIte, Int.reduceToNat, beq_self_eq_true, Bool.and_self, List.take_length]
          refine hNq _ (VWp.keep [2,3] [1000000] ?_); simp only [go_sem, Int.reduceEq, Int.reduceNe, Int.reduceLT, Int.reduceLE, Nat.reduceEqDiff, Nat.reduceAdd, Nat.reduceMul, Nat.reduceLT, Nat.reduceLeDiff, Nat.reduceSub, reduceCtorEq, reduceIte, Int.reduceToNat, beq_self_eq_true, Bool.and_self, List.take_length]
          refine vwp_ret ?_
          simp only [go_sem, Int.reduceEq, Int.reduceNe, Int.reduceLT, Int.reduceLE, Nat.reduceEqDiff, Nat.reduceAdd, Nat.reduceMul, Nat.reduceLT, Nat.reduceLeDiff, Nat.reduceSub, reduceCtorEq, reduceIte, Int.reduceToNat, beq_self_eq_true, Bool.and_self, List.take_length]
          exact ⟨LeV.refl _, rfl⟩
end Go.Proofs.YtnaljgmcpagbbaaGreatDoor

import Derived.Outline
import Derived.Test.YtnaljgmcpagbbaaGreatDoorKB
/- Layer 34: Print. -/
-- SIMP: beq_self_eq_true, Bool.and_self, List.take_length
namespace Go.Proofs.YtnaljgmcpagbbaaGreatDoor
open Go.RowKit
set_option linter.unusedVariables false
set_option linter.unusedSimpArgs false
structure SmS (s : StmJ) : Prop where
  nm : s.name.length ≤ 400000
  op : s.op.length ≤ 400000
  pl : s.params.length ≤ 1000000
  pp : ∀ p ∈ s.params, p.key.length ≤ 400000 ∧ p.value.length ≤ 400000 ∧ p.parts.length ≤ 1000000000
  dl : s.data.length ≤ 1000000
  dd : ∀ x ∈ s.data, x.length ≤ 1000000000
def prtV (r : Option (List Jb)) : V := match r with
  | some o => .tup [strsV o, .int .i64 0]
  | none => .tup [strsV [], .int .i64 340]
theorem printJ_cons (s : StmJ) (ss : List StmJ) : printJ (s :: ss) = match rendJ s with
    | none => none
    | some r => if !fitsJ s then none else match printJ ss with
      | none => none
      | some o => some (r ++ s.data ++ (if kindJ s == 0 then [] else [[47, 42]]) ++ o) := rfl
theorem rowsJ_len : ∀ (ps : List PrmJ) (i : Nat) (line : Jb) {r : List Jb}, rowsJ i line ps = some r → r.length ≤ ps.length + 1
  | [], i, line, r, h => by injection h with h; subst h; simp
  | p :: ps, i, line, r, h => by
    rw [rowsJ_cons] at h
    split at h
    · cases h
    · rename_i t _
      generalize (if ps.isEmpty = true then t else t ++ [44]) = T2 at h
      split at h
      · cases h
      · split at h
        · have := rowsJ_len ps _ _ h; simp only [List.length_cons]; omega
        · split at h
          · have := rowsJ_len ps _ _ h; simp only [List.length_cons]; omega
          · split at h
            · rename_i r' hr
              injection h with h
              subst h
              have := rowsJ_len ps _ _ hr
              simp only [List.length_cons]; omega
            · cases h
theorem rend_cases (s : StmJ) (hl : s.params.length ≤ 1000000) : (∃ r, rendJ s = some r ∧ rendV s = .tup [strsV r, .bool true] ∧ r.length ≤ 1000001) ∨ (rendJ s = none ∧ ∃ r, rendV s = .tup [strsV r, .bool false]) := by
  unfold rendJ rendV
  split
  · exact .inr ⟨rfl, _, rfl⟩
  · cases h : rowsJ 0 ([47, 47] ++ s.name ++ 32 :: s.op) s.params with
    | none => exact .inr ⟨rfl, _, rfl⟩
    | some r =>
      simp only
      have := rowsJ_len _ _ _ h
      cases ha : r.all fun t => decide (t.length ≤ 80)
      · exact .inr ⟨by simp, _, rfl⟩
      · exact .inl ⟨r, by simp, rfl, by omega⟩
set_option maxHeartbeats 16000000 in
set_option maxRecDepth 4000 in
theorem Print_spec (l : List StmJ) (hl : l.length ≤ 300) (hs : ∀ s ∈ l, SmS s) : Spec Tryz.prog 6 [stmsV l] (prtV (printJ l)) := by
  obtain ⟨R, hR⟩ : ∃ R, printJ l = R := ⟨_, rfl⟩
  rw [hR]
  refine spec_of tt_ok Tryz.func6 rfl (by decide) Tryz.ntmps6 (congrArg Array.toList Tryz.results6) (by simp) (by decide) (by cases R <;> rfl) rfl (fun F hF => ?_)
  refine vwp_seq_k fun Na hNa => vreg tt_ok hF rfl ?_; simp only [go_sem, Int.reduceEq, Int.reduceNe, Int.reduceLT, Int.reduceLE, Nat.reduceEqDiff, Nat.reduceAdd, Nat.reduceMul, Nat.reduceLT, Nat.reduceLeDiff, Nat.reduceSub, reduceCtorEq, reduceIte, Int.reduceToNat, beq_self_eq_true, Bool.and_self, List.take_length]
  refine hNa _ (VWp.keepR [0] [] tt_ok hF rfl fun Nb hNb => ?_); simp only [go_sem, Int.reduceEq, Int.reduceNe, Int.reduceLT, Int.reduceLE, Nat.reduceEqDiff, Nat.reduceAdd, Nat.reduceMul, Nat.reduceLT, Nat.reduceLeDiff, Nat.reduceSub, reduceCtorEq, reduceIte, Int.reduceToNat, beq_self_eq_true, Bool.and_self, List.take_length]
  refine hNb _ (VWp.keep [0,4] [] ?_); simp only [go_sem, Int.reduceEq, Int.reduceNe, Int.reduceLT, Int.reduceLE, Nat.reduceEqDiff, Nat.reduceAdd, Nat.reduceMul, Nat.reduceLT, Nat.reduceLeDiff, Nat.reduceSub, reduceCtorEq, reduceIte, Int.reduceToNat, beq_self_eq_true, Bool.and_self, List.take_length]
  refine vwp_seq_k fun Nc hNc => ?_
  refine vwp_seq_k fun Nd hNd => vreg tt_ok hF rfl ?_; simp only [go_sem, Int.reduceEq, Int.reduceNe, Int.reduceLT, Int.reduceLE, Nat.reduceEqDiff, Nat.reduceAdd, Nat.reduceMul, Nat.reduceLT, Nat.reduceLeDiff, Nat.reduceSub, reduceCtorEq, reduceIte, Int.reduceToNat, beq_self_eq_true, Bool.and_self, List.take_length]
  refine hNd _ (VWp.keep [4,9,10,11] [] ?_); simp only [go_sem, Int.reduceEq, Int.reduceNe, Int.reduceLT, Int.reduceLE, Nat.reduceEqDiff, Nat.reduceAdd, Nat.reduceMul, Nat.reduceLT, Nat.reduceLeDiff, Nat.reduceSub, reduceCtorEq, reduceIte, Int.reduceToNat, beq_self_eq_true, Bool.and_self, List.take_length]
  refine VWp.adopt 500000 1 9 (x := 4) rfl rfl (by decide) ?_ (closed_of (by simp only [go_sem, Int.reduceEq, Int.reduceNe, Int.reduceLT, Int.reduceLE, Nat.reduceEqDiff, Nat.reduceAdd, Nat.reduceMul, Nat.reduceLT, Nat.reduceLeDiff, Nat.reduceSub, reduceCtorEq, reduceIte, Int.reduceToNat, beq_self_eq_true, Bool.and_self, List.take_length]) (by simp only [go_sem, Int.reduceEq, Int.reduceNe, Int.reduceLT, Int.reduceLE, Nat.reduceEqDiff, Nat.reduceAdd, Nat.reduceMul, Nat.reduceLT, Nat.reduceLeDiff, Nat.reduceSub, reduceCtorEq, reduceIte, Int.reduceToNat, beq_self_eq_true, Bool.and_self, List.take_length]))
  refine VWp.keep [4,9,10,11] [500000] ?_; simp only [go_sem, Int.reduceEq, Int.reduceNe, Int.reduceLT, Int.reduceLE, Nat.reduceEqDiff, Nat.reduceAdd, Nat.reduceMul, Nat.reduceLT, Nat.reduceLeDiff, Nat.reduceSub, reduceCtorEq, reduceIte, Int.reduceToNat, beq_self_eq_true, Bool.and_self, List.take_length]
  refine vwp_block (vloop (fun z : Nat × List Jb => [(4, .own 500000 z.2.length), (9, stmsV l), (10, .int .i64 (l.length : Int)), (11, .int .i64 (z.1 : Int))])
    (fun z => [(500000, .arr 1 9 (z.2.map fun w => [V.str w]))])
    (fun z => z.1 ≤ l.length ∧ z.2.length ≤ z.1 * 3000000 ∧ outR z.2 (printJ (l.drop z.1)) = R) (fun z => l.length - z.1) (0, []) ⟨Nat.zero_le _, by simp, by show outR [] (printJ (l.drop 0)) = R; rw [List.drop_zero, hR]; cases R <;> rfl⟩ (by simp only [go_sem, Int.reduceEq, Int.reduceNe, Int.reduceLT, Int.reduceLE, Nat.reduceEqDiff, Nat.reduceAdd, Nat.reduceMul, Nat.reduceLT, Nat.reduceLeDiff, Nat.reduceSub, reduceCtorEq, reduceIte, Int.reduceToNat, beq_self_eq_true, Bool.and_self, List.take_length, List.length_map]) ?_)
  rintro ⟨m, out⟩ ⟨m1, m2, m3⟩
  have m1 : m ≤ l.length := m1
  have m2 : out.length ≤ m * 3000000 := m2
  have m3 : outR out (printJ (l.drop m)) = R := m3
  try dsimp only
  refine vwp_seq_k fun Ne hNe => vreg tt_ok hF rfl ?_; simp only [go_sem, Int.reduceEq, Int.reduceNe, Int.reduceLT, Int.reduceLE, Nat.reduceEqDiff, Nat.reduceAdd, Nat.reduceMul, Nat.reduceLT, Nat.reduceLeDiff, Nat.reduceSub, reduceCtorEq, reduceIte, Int.reduceToNat, beq_self_eq_true, Bool.and_self, List.take_length]
  refine hNe _ (VWp.keep [4,9,10,11,12] [500000] ?_); simp only [go_sem, Int.reduceEq, Int.reduceNe, Int.reduceLT, Int.reduceLE, Nat.reduceEqDiff, Nat.reduceAdd, Nat.reduceMul, Nat.reduceLT, Nat.reduceLeDiff, Nat.reduceSub, reduceCtorEq, reduceIte, Int.reduceToNat, beq_self_eq_true, Bool.and_self, List.take_length]
  refine vwp_seq_k fun Nf hNf => ?_
  refine vif rfl ⟨fun ht => ?_, fun hf => ?_⟩
  · have hlt : m < l.length := by have := of_decide_eq_true ht; omega
    obtain ⟨s, hg⟩ : ∃ s, l[m]? = some s := ⟨_, List.getElem?_eq_getElem hlt⟩
    have hss := hs s (List.mem_of_getElem? hg)
    have hrow : (l.map stmC).getD m [] = [.int .i64 s.line, .str s.name, .str s.op, .sl 3 (s.params.map prmC), .sl 1 (s.data.map fun w => [V.str w])] := by simp [hg, stmC, prmsV, strsV]
    have hpi : (0 : Int) ≤ (m : Int) ∧ (m : Int) < (l.length : Int) := ⟨by omega, by omega⟩
    have hd : l.drop m = s :: l.drop (m + 1) := by
      obtain ⟨h1, h2⟩ := List.getElem?_eq_some_iff.1 hg
      rw [List.drop_eq_getElem_cons h1, h2]
    rw [hd, printJ_cons] at m3
    have h1 := render_spec s hss.nm hss.op hss.pl hss.pp
    have h2 := dataFits_spec s (by have := hss.dl; omega) hss.dd
    have h3 := dataOf_spec s
    have hdl := hss.dl
    have hrc := rend_cases s hss.pl
    have e0 : decide ((kindJ s : Int) = 0) = (kindJ s == 0) := by
      by_cases h : kindJ s = 0
      · rw [h]; rfl
      · rw [decide_eq_false (by omega)]; simp [h]
    refine vwp_skip (hNf _ ?_)
    refine vwp_seq_k fun Ng hNg => ?_
    refine vwp_block ?_
    refine vwp_seq_k fun Nh hNh => vreg tt_ok hF rfl ?_; simp only [go_sem, Int.reduceEq, Int.reduceNe, Int.reduceLT, Int.reduceLE, Nat.reduceEqDiff, Nat.reduceAdd, Nat.reduceMul, Nat.reduceLT, Nat.reduceLeDiff, Nat.reduceSub, reduceCtorEq, reduceIte, Int.reduceToNat, beq_self_eq_true, Bool.and_self, List.take_length, List.length_map, hpi, hrow]
    refine hNh _ (VWp.keep [4,6,9,10,11] [6,500000] ?_); simp only [go_sem, Int.reduceEq, Int.reduceNe, Int.reduceLT, Int.reduceLE, Nat.reduceEqDiff, Nat.reduceAdd, Nat.reduceMul, Nat.reduceLT, Nat.reduceLeDiff, Nat.reduceSub, reduceCtorEq, reduceIte, Int.reduceToNat, beq_self_eq_true, Bool.and_self, List.take_length]
    rcases hrc with ⟨r, hr1, hr2, hr3⟩ | ⟨hr1, r, hr2⟩
    · rw [hr2] at h1
      rw [hr1] at m3
      refine vwp_seq_k fun Ni hNi => vreg tt_ok hF rfl ?_; simp only [go_sem, Int.reduceEq, Int.reduceNe, Int.reduceLT, Int.reduceLE, Nat.reduceEqDiff, Nat.reduceAdd, Nat.reduceMul, Nat.reduceLT, Nat.reduceLeDiff, Nat.reduceSub, reduceCtorEq, reduceIte, Int.reduceToNat, beq_self_eq_true, Bool.and_self, List.take_length]
      refine .inl ⟨_, h1, ?_⟩; try simp only [go_sem, Int.reduceEq, Int.reduceNe, Int.reduceLT, Int.reduceLE, Nat.reduceEqDiff, Nat.reduceAdd, Nat.reduceMul, Nat.reduceLT, Nat.reduceLeDiff, Nat.reduceSub, reduceCtorEq, reduceIte, Int.reduceToNat, beq_self_eq_true, Bool.and_self, List.take_length]
      refine hNi _ (VWp.keep [4,6,7,8,9,10,11] [6,500000] ?_); simp only [go_sem, Int.reduceEq, Int.reduceNe, Int.reduceLT, Int.reduceLE, Nat.reduceEqDiff, Nat.reduceAdd, Nat.reduceMul, Nat.reduceLT, Nat.reduceLeDiff, Nat.reduceSub, reduceCtorEq, reduceIte, Int.reduceToNat, beq_self_eq_true, Bool.and_self, List.take_length]
      refine vwp_seq_k fun Nj hNj => ?_
      generalize fitsJ s = fb at h2 m3
      refine vwp_seq_k fun Nk hNk => vreg tt_ok hF rfl ?_; simp only [go_sem, Int.reduceEq, Int.reduceNe, Int.reduceLT, Int.reduceLE, Nat.reduceEqDiff, Nat.reduceAdd, Nat.reduceMul, Nat.reduceLT, Nat.reduceLeDiff, Nat.reduceSub, reduceCtorEq, reduceIte, Int.reduceToNat, beq_self_eq_true, Bool.and_self, List.take_length]
      refine .inl ⟨_, h2, ?_⟩; try simp only [go_sem, Int.reduceEq, Int.reduceNe, Int.reduceLT, Int.reduceLE, Nat.reduceEqDiff, Nat.reduceAdd, Nat.reduceMul, Nat.reduceLT, Nat.reduceLeDiff, Nat.reduceSub, reduceCtorEq, reduceIte, Int.reduceToNat, beq_self_eq_true, Bool.and_self, List.take_length]
      refine hNk _ (VWp.keep [4,6,7,9,10,11,26] [6,500000] ?_); simp only [go_sem, Int.reduceEq, Int.reduceNe, Int.reduceLT, Int.reduceLE, Nat.reduceEqDiff, Nat.reduceAdd, Nat.reduceMul, Nat.reduceLT, Nat.reduceLeDiff, Nat.reduceSub, reduceCtorEq, reduceIte, Int.reduceToNat, beq_self_eq_true, Bool.and_self, List.take_length]
      cases fb
      · have hRn : R = none := m3.symm
        subst hRn
        refine vif rfl ⟨fun ht => ?_, fun hf => (by cases hf)⟩
        refine vwp_seq_k fun Nl hNl => vreg tt_ok hF rfl ?_; simp only [go_sem, Int.reduceEq, Int.reduceNe, Int.reduceLT, Int.reduceLE, Nat.reduceEqDiff, Nat.reduceAdd, Nat.reduceMul, Nat.reduceLT, Nat.reduceLeDiff, Nat.reduceSub, reduceCtorEq, reduceIte, Int.reduceToNat, beq_self_eq_true, Bool.and_self, List.take_length]
        refine hNl _ (VWp.keep [2,3] [] ?_); simp only [go_sem, Int.reduceEq, Int.reduceNe, Int.reduceLT, Int.reduceLE, Nat.reduceEqDiff, Nat.reduceAdd, Nat.reduceMul, Nat.reduceLT, Nat.reduceLeDiff, Nat.reduceSub, reduceCtorEq, reduceIte, Int.reduceToNat, beq_self_eq_true, Bool.and_self, List.take_length]
        refine vwp_ret ?_
        simp only [go_sem, Int.reduceEq, Int.reduceNe, Int.reduceLT, Int.reduceLE, Nat.reduceEqDiff, Nat.reduceAdd, Nat.reduceMul, Nat.reduceLT, Nat.reduceLeDiff, Nat.reduceSub, reduceCtorEq, reduceIte, Int.reduceToNat, beq_self_eq_true, Bool.and_self, List.take_length]
        exact LeV.tup ⟨LeV.nil 1, LeV.refl _, trivial⟩
      · refine vif rfl ⟨fun ht => (by cases ht), fun hf => ?_⟩
        have m3 : outR out (match printJ (l.drop (m + 1)) with
          | none => none
          | some o => some (r ++ s.data ++ (if kindJ s == 0 then [] else [[47, 42]]) ++ o)) = R := m3
        refine vwp_skip (hNj _ ?_)
        refine vmeet (fun _ : Unit => [(4, .own 500000 (out ++ r ++ s.data).length), (6, .ptr 6 0), (9, stmsV l), (10, .int .i64 (l.length : Int)), (11, .int .i64 (m : Int))]) (fun _ => [(6, .box 34 (stmC s)), (500000, .arr 1 9 ((out ++ r ++ s.data).map fun w => [V.str w]))]) (fun _ => True) ?_ ?_
        · refine vregord tt_ok mixed hF rfl .no [[0, 1, 2, 3, 4, 5, 6], [0, 1, 3, 4, 2, 5, 6]] [] (by kernel_rfl) ⟨?_, ?_, trivial⟩ <;> simp only [pickL, go_sem, Int.reduceEq, Int.reduceNe, Int.reduceLT, Int.reduceLE, Nat.reduceEqDiff, Nat.reduceAdd, Nat.reduceMul, Nat.reduceLT, Nat.reduceLeDiff, Nat.reduceSub, reduceCtorEq, reduceIte, Int.reduceToNat, beq_self_eq_true, Bool.and_self, List.take_length, List.length_map, List.length_append]
          all_goals
            refine ⟨by omega, by omega, ?_⟩
            exact ⟨(), by simp [stmC, prmsV, strsV]⟩
        intro _ _
        simp only [stmC, prmsV, strsV]
        generalize kindJ s = kd at h3 e0 m3
        refine vwp_seq_k fun Nn hNn => vreg tt_ok hF rfl ?_; simp only [go_sem, Int.reduceEq, Int.reduceNe, Int.reduceLT, Int.reduceLE, Nat.reduceEqDiff, Nat.reduceAdd, Nat.reduceMul, Nat.reduceLT, Nat.reduceLeDiff, Nat.reduceSub, reduceCtorEq, reduceIte, Int.reduceToNat, beq_self_eq_true, Bool.and_self, List.take_length]
        refine .inl ⟨_, h3, ?_⟩; try simp only [go_sem, Int.reduceEq, Int.reduceNe, Int.reduceLT, Int.reduceLE, Nat.reduceEqDiff, Nat.reduceAdd, Nat.reduceMul, Nat.reduceLT, Nat.reduceLeDiff, Nat.reduceSub, reduceCtorEq, reduceIte, Int.reduceToNat, beq_self_eq_true, Bool.and_self, List.take_length, e0]
        refine hNn _ (VWp.keep [4,9,10,11,35] [500000] ?_); simp only [go_sem, Int.reduceEq, Int.reduceNe, Int.reduceLT, Int.reduceLE, Nat.reduceEqDiff, Nat.reduceAdd, Nat.reduceMul, Nat.reduceLT, Nat.reduceLeDiff, Nat.reduceSub, reduceCtorEq, reduceIte, Int.reduceToNat, beq_self_eq_true, Bool.and_self, List.take_length]
        cases hk0 : (kd == 0)
        · rw [hk0] at m3
          refine vif rfl ⟨fun ht => ?_, fun hf => (by cases hf)⟩
          refine vreg tt_ok hF rfl ?_; simp only [go_sem, Int.reduceEq, Int.reduceNe, Int.reduceLT, Int.reduceLE, Nat.reduceEqDiff, Nat.reduceAdd, Nat.reduceMul, Nat.reduceLT, Nat.reduceLeDiff, Nat.reduceSub, reduceCtorEq, reduceIte, Int.reduceToNat, beq_self_eq_true, Bool.and_self, List.take_length]
          refine ⟨by simp only [List.length_append]; omega, ?_⟩
          refine hNg _ (VWp.keep [4,9,10,11] [500000] ?_); simp only [go_sem, Int.reduceEq, Int.reduceNe, Int.reduceLT, Int.reduceLE, Nat.reduceEqDiff, Nat.reduceAdd, Nat.reduceMul, Nat.reduceLT, Nat.reduceLeDiff, Nat.reduceSub, reduceCtorEq, reduceIte, Int.reduceToNat, beq_self_eq_true, Bool.and_self, List.take_length]
          refine vreg tt_ok hF rfl ?_; simp only [go_sem, Int.reduceEq, Int.reduceNe, Int.reduceLT, Int.reduceLE, Nat.reduceEqDiff, Nat.reduceAdd, Nat.reduceMul, Nat.reduceLT, Nat.reduceLeDiff, Nat.reduceSub, reduceCtorEq, reduceIte, Int.reduceToNat, beq_self_eq_true, Bool.and_self, List.take_length]
          rw [wrap_i64 (by omega) (by omega)]
          refine ⟨(m + 1, out ++ r ++ s.data ++ [[47, 42]]), ⟨by simp only; omega, by simp only [List.length_append, List.length_singleton]; omega, ?_⟩, by simp only; omega, by simp [stmsV]⟩
          show outR (out ++ r ++ s.data ++ [[47, 42]]) (printJ (l.drop (m + 1))) = R
          rw [← m3]
          cases printJ (l.drop (m + 1)) <;> simp [outR]
        · rw [hk0] at m3
          refine vif rfl ⟨fun ht => (by cases ht), fun hf => ?_⟩
          refine vwp_skip ?_
          refine hNg _ (VWp.keep [4,9,10,11] [500000] ?_); simp only [go_sem, Int.reduceEq, Int.reduceNe, Int.reduceLT, Int.reduceLE, Nat.reduceEqDiff, Nat.reduceAdd, Nat.reduceMul, Nat.reduceLT, Nat.reduceLeDiff, Nat.reduceSub, reduceCtorEq, reduceIte, Int.reduceToNat, beq_self_eq_true, Bool.and_self, List.take_length]
          refine vreg tt_ok hF rfl ?_; simp only [go_sem, Int.reduceEq, Int.reduceNe, Int.reduceLT, Int.reduceLE, Nat.reduceEqDiff, Nat.reduceAdd, Nat.reduceMul, Nat.reduceLT, Nat.reduceLeDiff, Nat.reduceSub, reduceCtorEq, reduceIte, Int.reduceToNat, beq_self_eq_true, Bool.and_self, List.take_length]
          rw [wrap_i64 (by omega) (by omega)]
          refine ⟨(m + 1, out ++ r ++ s.data), ⟨by simp only; omega, by simp only [List.length_append]; omega, ?_⟩, by simp only; omega, by simp [stmsV]⟩
          show outR (out ++ r ++ s.data) (printJ (l.drop (m + 1))) = R
          rw [← m3]
          cases printJ (l.drop (m + 1)) <;> simp [outR]
    · rw [hr2] at h1
      rw [hr1] at m3
      have hRn : R = none := m3.symm
      subst hRn
      refine vwp_seq_k fun Ni hNi => vreg tt_ok hF rfl ?_; simp only [go_sem, Int.reduceEq, Int.reduceNe, Int.reduceLT, Int.reduceLE, Nat.reduceEqDiff, Nat.reduceAdd, Nat.reduceMul, Nat.reduceLT, Nat.reduceLeDiff, Nat.reduceSub, reduceCtorEq, reduceIte, Int.reduceToNat, beq_self_eq_true, Bool.and_self, List.take_length]
      refine .inl ⟨_, h1, ?_⟩; try simp only [go_sem, Int.reduceEq, Int.reduceNe, Int.reduceLT, Int.reduceLE, Nat.reduceEqDiff, Nat.reduceAdd, Nat.reduceMul, Nat.reduceLT, Nat.reduceLeDiff, Nat.reduceSub, reduceCtorEq, reduceIte, Int.reduceToNat, beq_self_eq_true, Bool.and_self, List.take_length]
      refine hNi _ (VWp.keep [4,6,7,8,9,10,11] [6,500000] ?_); simp only [go_sem, Int.reduceEq, Int.reduceNe, Int.reduceLT, Int.reduceLE, Nat.reduceEqDiff, Nat.reduceAdd, Nat.reduceMul, Nat.reduceLT, Nat.reduceLeDiff, Nat.reduceSub, reduceCtorEq, reduceIte, Int.reduceToNat, beq_self_eq_true, Bool.and_self, List.take_length]
      refine vwp_seq_k fun Nj hNj => ?_
      refine vwp_seq_k fun Nk hNk => vreg tt_ok hF rfl ?_; simp only [go_sem, Int.reduceEq, Int.reduceNe, Int.reduceLT, Int.reduceLE, Nat.reduceEqDiff, Nat.reduceAdd, Nat.reduceMul, Nat.reduceLT, Nat.reduceLeDiff, Nat.reduceSub, reduceCtorEq, reduceIte, Int.reduceToNat, beq_self_eq_true, Bool.and_self, List.take_length]
      refine hNk _ (VWp.keep [4,6,7,9,10,11,26] [6,500000] ?_); simp only [go_sem, Int.reduceEq, Int.reduceNe, Int.reduceLT, Int.reduceLE, Nat.reduceEqDiff, Nat.reduceAdd, Nat.reduceMul, Nat.reduceLT, Nat.reduceLeDiff, Nat.reduceSub, reduceCtorEq, reduceIte, Int.reduceToNat, beq_self_eq_true, Bool.and_self, List.take_length]
      refine vif rfl ⟨fun ht => ?_, fun hf => (by cases hf)⟩
      refine vwp_seq_k fun Nl hNl => vreg tt_ok hF rfl ?_; simp only [go_sem, Int.reduceEq, Int.reduceNe, Int.reduceLT, Int.reduceLE, Nat.reduceEqDiff, Nat.reduceAdd, Nat.reduceMul, Nat.reduceLT, Nat.reduceLeDiff, Nat.reduceSub, reduceCtorEq, reduceIte, Int.reduceToNat, beq_self_eq_true, Bool.and_self, List.take_length]
      refine hNl _ (VWp.keep [2,3] [] ?_); simp only [go_sem, Int.reduceEq, Int.reduceNe, Int.reduceLT, Int.reduceLE, Nat.reduceEqDiff, Nat.reduceAdd, Nat.reduceMul, Nat.reduceLT, Nat.reduceLeDiff, Nat.reduceSub, reduceCtorEq, reduceIte, Int.reduceToNat, beq_self_eq_true, Bool.and_self, List.take_length]
      refine vwp_ret ?_
      simp only [go_sem, Int.reduceEq, Int.reduceNe, Int.reduceLT, Int.reduceLE, Nat.reduceEqDiff, Nat.reduceAdd, Nat.reduceMul, Nat.reduceLT, Nat.reduceLeDiff, Nat.reduceSub, reduceCtorEq, reduceIte, Int.reduceToNat, beq_self_eq_true, Bool.and_self, List.take_length]
      exact LeV.tup ⟨LeV.nil 1, LeV.refl _, trivial⟩
  · have hm : m = l.length := by have := of_decide_eq_false hf; omega
    subst hm
    rw [List.drop_length] at m3
    have m3 : some (out ++ []) = R := m3
    rw [List.append_nil] at m3
    subst m3
    refine vwp_exit ?_
    simp only [go_sem, Int.reduceEq, Int.reduceNe, Int.reduceLT, Int.reduceLE, Nat.reduceEqDiff, Nat.reduceAdd, Nat.reduceMul, Nat.reduceLT, Nat.reduceLeDiff, Nat.reduceSub, reduceCtorEq, reduceIte, Int.reduceToNat, beq_self_eq_true, Bool.and_self, List.take_length]
    refine hNc _ (VWp.keepR [4] [500000] tt_ok hF rfl fun No hNo => ?_); simp only [go_sem, Int.reduceEq, Int.reduceNe, Int.reduceLT, Int.reduceLE, Nat.reduceEqDiff, Nat.reduceAdd, Nat.reduceMul, Nat.reduceLT, Nat.reduceLeDiff, Nat.reduceSub, reduceCtorEq, reduceIte, Int.reduceToNat, beq_self_eq_true, Bool.and_self, List.take_length]
    refine hNo _ (VWp.keep [2,3] [500000] ?_); simp only [go_sem, Int.reduceEq, Int.reduceNe, Int.reduceLT, Int.reduceLE, Nat.reduceEqDiff, Nat.reduceAdd, Nat.reduceMul, Nat.reduceLT, Nat.reduceLeDiff, Nat.reduceSub, reduceCtorEq, reduceIte, Int.reduceToNat, beq_self_eq_true, Bool.and_self, List.take_length]
    refine vwp_ret ?_
    simp only [go_sem, Int.reduceEq, Int.reduceNe, Int.reduceLT, Int.reduceLE, Nat.reduceEqDiff, Nat.reduceAdd, Nat.reduceMul, Nat.reduceLT, Nat.reduceLeDiff, Nat.reduceSub, reduceCtorEq, reduceIte, Int.reduceToNat, beq_self_eq_true, Bool.and_self, List.take_length]
    exact LeV.refl _
end Go.Proofs.YtnaljgmcpagbbaaGreatDoor

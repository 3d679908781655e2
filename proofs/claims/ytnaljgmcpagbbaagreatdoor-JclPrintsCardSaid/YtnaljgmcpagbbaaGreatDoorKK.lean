import Derived.Outline
import Derived.Test.YtnaljgmcpagbbaaGreatDoorKF
import Derived.Test.YtnaljgmcpagbbaaGreatDoorJI
/- JclReturns. -/
-- SIMP: beq_self_eq_true, Bool.and_self, List.take_length, decide_true, Bool.not_true, Bool.not_false
namespace Go.Proofs.YtnaljgmcpagbbaaGreatDoor
open Go.RowKit
set_option linter.unusedVariables false
set_option linter.unusedSimpArgs false
theorem gt_nat (k n : Nat) : decide ((k : Int) < (n : Int)) = !decide (n ≤ k) := by
  by_cases h : n ≤ k
  · rw [decide_eq_false (by omega), decide_eq_true h]; rfl
  · rw [decide_eq_true (by omega), decide_eq_false h]; rfl
def bigP (p : PrmJ) : Bool := !decide (p.key.length ≤ 300) || !decide (p.value.length ≤ 300) || bigJ p.parts
def bigS1 (s : StmJ) : Bool := !decide (s.params.length ≤ 30) || !decide (s.name.length ≤ 300) || !decide (s.op.length ≤ 300) || bigJ s.data
def bigS (s : StmJ) : Bool := bigS1 s || s.params.any bigP
def bigL (l : List StmJ) : Bool := (l.take 30).any bigS || !decide (l.length ≤ 30)
structure FewS (s : StmJ) : Prop where
  nm : s.name.length ≤ 300
  op : s.op.length ≤ 300
  pl : s.params.length ≤ 30
  pp : ∀ p ∈ s.params, p.key.length ≤ 300 ∧ p.value.length ≤ 300 ∧ p.parts.length ≤ 60 ∧ ∀ x ∈ p.parts, x.length ≤ 300
  dl : s.data.length ≤ 60
  dd : ∀ x ∈ s.data, x.length ≤ 300
theorem few_of {s : StmJ} (h : bigS s = false) : FewS s := by
  unfold bigS bigS1 at h
  simp only [Bool.or_eq_false_iff, Bool.not_eq_false', decide_eq_true_eq] at h
  obtain ⟨⟨⟨⟨h1, h2⟩, h3⟩, h4⟩, h5⟩ := h
  obtain ⟨h6, h7⟩ := bigJ_no h4
  refine ⟨h2, h3, h1, fun p hp => ?_, h6, h7⟩
  have := List.any_eq_false.1 h5 p hp
  rw [Bool.not_eq_true] at this
  unfold bigP at this
  simp only [Bool.or_eq_false_iff, Bool.not_eq_false', decide_eq_true_eq] at this
  obtain ⟨⟨g1, g2⟩, g3⟩ := this
  obtain ⟨g4, g5⟩ := bigJ_no g3
  exact ⟨g1, g2, g4, g5⟩
theorem FewS.sm {s : StmJ} (h : FewS s) : SmS s := ⟨by have := h.nm; omega, by have := h.op; omega, by have := h.pl; omega, fun p hp => by obtain ⟨a, b, c, _⟩ := h.pp p hp; exact ⟨by omega, by omega, by omega⟩, by have := h.dl; omega, fun x hx => by have := h.dd x hx; omega⟩
theorem bigL_no {l : List StmJ} (h : bigL l = false) : l.length ≤ 30 ∧ ∀ s ∈ l, FewS s := by
  unfold bigL at h
  rw [Bool.or_eq_false_iff] at h
  obtain ⟨h1, h2⟩ := h
  have hl : l.length ≤ 30 := by simpa using h2
  refine ⟨hl, fun s hs => few_of ?_⟩
  rw [List.take_of_length_le hl] at h1
  have := List.any_eq_false.1 h1 s hs
  rwa [Bool.not_eq_true] at this
theorem print_size : ∀ (l : List StmJ) {L : List Jb}, (∀ s ∈ l, FewS s) → printJ l = some L → L.length ≤ l.length * 100 ∧ sizeJ L ≤ l.length * 30000
  | [], L, _, h => by injection h with h; subst h; simp [sizeJ]
  | s :: ss, L, hs, h => by
    rw [printJ_cons] at h
    have hf := hs s List.mem_cons_self
    cases hr : rendJ s with
    | none => rw [hr] at h; cases h
    | some r =>
      rw [hr] at h
      dsimp only at h
      split at h
      · cases h
      cases ho : printJ ss with
      | none => rw [ho] at h; cases h
      | some o =>
        rw [ho] at h
        injection h with h
        subst h
        obtain ⟨i1, i2⟩ := print_size ss (fun x hx => hs x (List.mem_cons_of_mem _ hx)) ho
        have hrr : r.length ≤ 31 ∧ ∀ x ∈ r, x.length ≤ 80 := by
          unfold rendJ at hr
          split at hr
          · cases hr
          · split at hr
            · rename_i r' hr'
              split at hr
              · rename_i hall
                injection hr with hr
                subst hr
                have := rowsJ_len _ _ _ hr'
                have h2 := hf.pl
                exact ⟨by omega, fun x hx => by simpa using List.all_eq_true.1 hall x hx⟩
              · cases hr
            · cases hr
        have s1 := size_le r 80 hrr.2
        have s2 := size_le s.data 300 hf.dd
        have s3 := hf.dl
        have s4 : sizeJ (if (kindJ s == 0) = true then ([] : List Jb) else [[47, 42]]) ≤ 2 := by split <;> simp [sizeJ]
        have s5 : (if (kindJ s == 0) = true then ([] : List Jb) else [[47, 42]]).length ≤ 1 := by split <;> simp
        rw [sizeJ_app, sizeJ_app, sizeJ_app]
        simp only [List.length_append, List.length_cons]
        constructor <;> omega
set_option maxHeartbeats 16000000 in
set_option maxRecDepth 4000 in
theorem BigStmts_spec (l : List StmJ) : Spec Tryz.prog 4 [stmsV l] (.bool (bigL l)) := by
  obtain ⟨R, hR⟩ : ∃ R, bigL l = R := ⟨_, rfl⟩
  rw [hR]
  refine spec_of tt_ok Tryz.func4 rfl (by decide) Tryz.ntmps4 (congrArg Array.toList Tryz.results4) (by simp) (by decide) rfl rfl (fun F hF => ?_)
  refine vwp_seq_k fun Na hNa => vreg tt_ok hF rfl ?_; simp only [go_sem, Int.reduceEq, Int.reduceNe, Int.reduceLT, Int.reduceLE, Nat.reduceEqDiff, Nat.reduceAdd, Nat.reduceMul, Nat.reduceLT, Nat.reduceLeDiff, Nat.reduceSub, reduceCtorEq, reduceIte, Int.reduceToNat, beq_self_eq_true, Bool.and_self, List.take_length, decide_true, Bool.not_true, Bool.not_false]
  refine hNa _ (VWp.keep [0] [] ?_); simp only [go_sem, Int.reduceEq, Int.reduceNe, Int.reduceLT, Int.reduceLE, Nat.reduceEqDiff, Nat.reduceAdd, Nat.reduceMul, Nat.reduceLT, Nat.reduceLeDiff, Nat.reduceSub, reduceCtorEq, reduceIte, Int.reduceToNat, beq_self_eq_true, Bool.and_self, List.take_length, decide_true, Bool.not_true, Bool.not_false]
  refine vwp_seq_k fun Nb hNb => ?_
  refine vwp_seq_k fun Nc hNc => vreg tt_ok hF rfl ?_; simp only [go_sem, Int.reduceEq, Int.reduceNe, Int.reduceLT, Int.reduceLE, Nat.reduceEqDiff, Nat.reduceAdd, Nat.reduceMul, Nat.reduceLT, Nat.reduceLeDiff, Nat.reduceSub, reduceCtorEq, reduceIte, Int.reduceToNat, beq_self_eq_true, Bool.and_self, List.take_length, decide_true, Bool.not_true, Bool.not_false]
  refine hNc _ (VWp.keep [0,3] [] ?_); simp only [go_sem, Int.reduceEq, Int.reduceNe, Int.reduceLT, Int.reduceLE, Nat.reduceEqDiff, Nat.reduceAdd, Nat.reduceMul, Nat.reduceLT, Nat.reduceLeDiff, Nat.reduceSub, reduceCtorEq, reduceIte, Int.reduceToNat, beq_self_eq_true, Bool.and_self, List.take_length, decide_true, Bool.not_true, Bool.not_false]
  refine vwp_block (vloop (fun m : Nat => [(0, stmsV l), (3, .int .i64 (m : Int))]) (fun _ => []) (fun m => m ≤ l.length ∧ m ≤ 30 ∧ (l.take m).any bigS = false) (fun m => 30 - m) 0 ⟨Nat.zero_le _, Nat.zero_le _, by simp⟩ (by simp only [go_sem, Int.reduceEq, Int.reduceNe, Int.reduceLT, Int.reduceLE, Nat.reduceEqDiff, Nat.reduceAdd, Nat.reduceMul, Nat.reduceLT, Nat.reduceLeDiff, Nat.reduceSub, reduceCtorEq, reduceIte, Int.reduceToNat, beq_self_eq_true, Bool.and_self, List.take_length, decide_true, Bool.not_true, Bool.not_false]) ?_)
  rintro m ⟨m1, m2, m3⟩
  refine vwp_seq_k fun Nd hNd => ?_
  refine vmeet (fun z : Bool => [(0, stmsV l), (3, .int .i64 (m : Int)), (13, .bool z)]) (fun _ => []) (fun z => z = (decide (m < l.length) && decide (m < 30))) ?_ ?_
  · have e1 : decide ((m : Int) < (l.length : Int)) = decide (m < l.length) := by apply decide_eq_decide.2; omega
    have e2 : decide ((m : Int) < (30 : Int)) = decide (m < 30) := by apply decide_eq_decide.2; omega
    generalize decide (m < l.length) = b1 at e1 ⊢
    generalize decide (m < 30) = b2 at e2 ⊢
    cases b1
    · refine vreg tt_ok hF rfl ?_; simp only [go_sem, Int.reduceEq, Int.reduceNe, Int.reduceLT, Int.reduceLE, Nat.reduceEqDiff, Nat.reduceAdd, Nat.reduceMul, Nat.reduceLT, Nat.reduceLeDiff, Nat.reduceSub, reduceCtorEq, reduceIte, Int.reduceToNat, beq_self_eq_true, Bool.and_self, List.take_length, decide_true, Bool.not_true, Bool.not_false, List.length_map, e1]
      exact ⟨false, rfl, by simp⟩
    · refine vreg tt_ok hF rfl ?_; simp only [go_sem, Int.reduceEq, Int.reduceNe, Int.reduceLT, Int.reduceLE, Nat.reduceEqDiff, Nat.reduceAdd, Nat.reduceMul, Nat.reduceLT, Nat.reduceLeDiff, Nat.reduceSub, reduceCtorEq, reduceIte, Int.reduceToNat, beq_self_eq_true, Bool.and_self, List.take_length, decide_true, Bool.not_true, Bool.not_false, List.length_map, e1, e2]
      exact ⟨b2, by simp, by simp⟩
  intro z hz
  refine vif rfl ⟨fun ht => ?_, fun hf => ?_⟩
  · rw [ht] at hz
    have hz := hz.symm
    rw [Bool.and_eq_true, decide_eq_true_eq, decide_eq_true_eq] at hz
    obtain ⟨z1, z2⟩ := hz
    obtain ⟨x, hx⟩ : ∃ x, l[m]? = some x := ⟨_, List.getElem?_eq_getElem z1⟩
    have hr1 : (l.map stmC).getD m [] = [.int .i64 x.line, .str x.name, .str x.op, .sl 3 (x.params.map prmC), .sl 1 (x.data.map fun w => [V.str w])] := by simp [hx, stmC, prmsV, strsV]
    have hp1 : (0 : Int) ≤ (m : Int) ∧ (m : Int) < (l.length : Int) := ⟨by omega, by omega⟩
    have hmem : bigS x = true → R = true := fun hb => by
      rw [← hR]
      unfold bigL
      rw [List.any_eq_true.2 ⟨x, List.mem_iff_getElem?.2 ⟨m, by rw [List.getElem?_take, if_pos z2, hx]⟩, hb⟩]; rfl
    have hstep : bigS x = false → (l.take (m + 1)).any bigS = false := fun hb => by rw [any_take_succ _ _ _ _ hx, m3, hb]; rfl
    have hb := Big_spec x.data
    have hdef : bigS x = (bigS1 x || x.params.any bigP) := rfl
    refine vwp_skip (hNd _ ?_)
    refine vwp_seq_k fun Nf hNf => ?_
    refine vwp_block ?_
    refine vwp_seq_k fun Ng hNg => ?_
    refine vmeet (fun z : Bool => [(0, stmsV l), (3, .int .i64 (m : Int)), (48, .bool z)]) (fun _ => []) (fun z => z = bigS1 x) ?_ ?_
    · have e1 : decide ((30 : Int) < (x.params.length : Int)) = !decide (x.params.length ≤ 30) := gt_nat 30 _
      have e2 : decide ((300 : Int) < (x.name.length : Int)) = !decide (x.name.length ≤ 300) := gt_nat 300 _
      have e3 : decide ((300 : Int) < (x.op.length : Int)) = !decide (x.op.length ≤ 300) := gt_nat 300 _
      unfold bigS1
      generalize decide (x.params.length ≤ 30) = b1 at e1 ⊢
      generalize decide (x.name.length ≤ 300) = b2 at e2 ⊢
      generalize decide (x.op.length ≤ 300) = b3 at e3 ⊢
      cases b1 <;> cases b2 <;> cases b3
      all_goals
        refine vreg tt_ok hF rfl ?_; simp only [go_sem, Int.reduceEq, Int.reduceNe, Int.reduceLT, Int.reduceLE, Nat.reduceEqDiff, Nat.reduceAdd, Nat.reduceMul, Nat.reduceLT, Nat.reduceLeDiff, Nat.reduceSub, reduceCtorEq, reduceIte, Int.reduceToNat, beq_self_eq_true, Bool.and_self, List.take_length, decide_true, Bool.not_true, Bool.not_false, List.length_map, hp1, hr1, e1, e2, e3]
        try (refine .inl ⟨_, hb, ?_⟩; try simp only [go_sem, Int.reduceEq, Int.reduceNe, Int.reduceLT, Int.reduceLE, Nat.reduceEqDiff, Nat.reduceAdd, Nat.reduceMul, Nat.reduceLT, Nat.reduceLeDiff, Nat.reduceSub, reduceCtorEq, reduceIte, Int.reduceToNat, beq_self_eq_true, Bool.and_self, List.take_length, decide_true, Bool.not_true, Bool.not_false])
        exact ⟨_, rfl, by simp⟩
    intro z hz
    refine vif rfl ⟨fun ht => ?_, fun hf => ?_⟩
    · have hRt : R = true := hmem (by rw [hdef, ← hz, ht]; rfl)
      subst hRt
      refine vwp_seq_k fun Ni hNi => vreg tt_ok hF rfl ?_; simp only [go_sem, Int.reduceEq, Int.reduceNe, Int.reduceLT, Int.reduceLE, Nat.reduceEqDiff, Nat.reduceAdd, Nat.reduceMul, Nat.reduceLT, Nat.reduceLeDiff, Nat.reduceSub, reduceCtorEq, reduceIte, Int.reduceToNat, beq_self_eq_true, Bool.and_self, List.take_length, decide_true, Bool.not_true, Bool.not_false]
      refine hNi _ (VWp.keep [2] [] ?_); simp only [go_sem, Int.reduceEq, Int.reduceNe, Int.reduceLT, Int.reduceLE, Nat.reduceEqDiff, Nat.reduceAdd, Nat.reduceMul, Nat.reduceLT, Nat.reduceLeDiff, Nat.reduceSub, reduceCtorEq, reduceIte, Int.reduceToNat, beq_self_eq_true, Bool.and_self, List.take_length, decide_true, Bool.not_true, Bool.not_false]
      refine vwp_ret ?_
      simp only [go_sem, Int.reduceEq, Int.reduceNe, Int.reduceLT, Int.reduceLE, Nat.reduceEqDiff, Nat.reduceAdd, Nat.reduceMul, Nat.reduceLT, Nat.reduceLeDiff, Nat.reduceSub, reduceCtorEq, reduceIte, Int.reduceToNat, beq_self_eq_true, Bool.and_self, List.take_length, decide_true, Bool.not_true, Bool.not_false]
      exact LeV.refl _
    · have hpl30 : x.params.length ≤ 30 := by
        have h0 : bigS1 x = false := by rw [← hz, hf]
        unfold bigS1 at h0
        simp only [Bool.or_eq_false_iff, Bool.not_eq_false', decide_eq_true_eq] at h0
        exact h0.1.1.1
      rw [← hz, hf, Bool.false_or] at hdef
      refine vwp_skip (hNg _ ?_)
      refine vwp_seq_k fun Nj hNj => vreg tt_ok hF rfl ?_; simp only [go_sem, Int.reduceEq, Int.reduceNe, Int.reduceLT, Int.reduceLE, Nat.reduceEqDiff, Nat.reduceAdd, Nat.reduceMul, Nat.reduceLT, Nat.reduceLeDiff, Nat.reduceSub, reduceCtorEq, reduceIte, Int.reduceToNat, beq_self_eq_true, Bool.and_self, List.take_length, decide_true, Bool.not_true, Bool.not_false]
      refine hNj _ (VWp.keep [0,3,4] [] ?_); simp only [go_sem, Int.reduceEq, Int.reduceNe, Int.reduceLT, Int.reduceLE, Nat.reduceEqDiff, Nat.reduceAdd, Nat.reduceMul, Nat.reduceLT, Nat.reduceLeDiff, Nat.reduceSub, reduceCtorEq, reduceIte, Int.reduceToNat, beq_self_eq_true, Bool.and_self, List.take_length, decide_true, Bool.not_true, Bool.not_false]
      refine vwp_block (vloop (fun q : Nat => [(0, stmsV l), (3, .int .i64 (m : Int)), (4, .int .i64 (q : Int))]) (fun _ => []) (fun q => q ≤ x.params.length ∧ (x.params.take q).any bigP = false) (fun q => x.params.length - q) 0 ⟨Nat.zero_le _, by simp⟩ (by simp only [go_sem, Int.reduceEq, Int.reduceNe, Int.reduceLT, Int.reduceLE, Nat.reduceEqDiff, Nat.reduceAdd, Nat.reduceMul, Nat.reduceLT, Nat.reduceLeDiff, Nat.reduceSub, reduceCtorEq, reduceIte, Int.reduceToNat, beq_self_eq_true, Bool.and_self, List.take_length, decide_true, Bool.not_true, Bool.not_false]) ?_)
      rintro q ⟨q1, q2⟩
      refine vwp_seq_k fun Nk hNk => ?_
      refine vwp_seq_k fun Nl hNl => vreg tt_ok hF rfl ?_; simp only [go_sem, Int.reduceEq, Int.reduceNe, Int.reduceLT, Int.reduceLE, Nat.reduceEqDiff, Nat.reduceAdd, Nat.reduceMul, Nat.reduceLT, Nat.reduceLeDiff, Nat.reduceSub, reduceCtorEq, reduceIte, Int.reduceToNat, beq_self_eq_true, Bool.and_self, List.take_length, decide_true, Bool.not_true, Bool.not_false, List.length_map, hp1, hr1]
      refine hNl _ (VWp.keep [0,3,4,56] [] ?_); simp only [go_sem, Int.reduceEq, Int.reduceNe, Int.reduceLT, Int.reduceLE, Nat.reduceEqDiff, Nat.reduceAdd, Nat.reduceMul, Nat.reduceLT, Nat.reduceLeDiff, Nat.reduceSub, reduceCtorEq, reduceIte, Int.reduceToNat, beq_self_eq_true, Bool.and_self, List.take_length, decide_true, Bool.not_true, Bool.not_false]
      refine vif rfl ⟨fun ht => ?_, fun hf => ?_⟩
      · have hqlt : q < x.params.length := by have := of_decide_eq_true ht; omega
        obtain ⟨p, hp⟩ : ∃ p, x.params[q]? = some p := ⟨_, List.getElem?_eq_getElem hqlt⟩
        have hr3 : (x.params.map prmC).getD q [] = [.str p.key, .str p.value, .sl 1 (p.parts.map fun w => [V.str w])] := by simp [hp, prmC, strsV]
        have hp3 : (0 : Int) ≤ (q : Int) ∧ (q : Int) < (x.params.length : Int) := ⟨by omega, by omega⟩
        have hb2 := Big_spec p.parts
        refine vwp_skip (hNk _ ?_)
        refine vwp_seq_k fun Nm hNm => ?_
        refine vwp_block ?_
        refine vwp_seq_k fun Nn hNn => vreg tt_ok hF rfl ?_; simp only [go_sem, Int.reduceEq, Int.reduceNe, Int.reduceLT, Int.reduceLE, Nat.reduceEqDiff, Nat.reduceAdd, Nat.reduceMul, Nat.reduceLT, Nat.reduceLeDiff, Nat.reduceSub, reduceCtorEq, reduceIte, Int.reduceToNat, beq_self_eq_true, Bool.and_self, List.take_length, decide_true, Bool.not_true, Bool.not_false, List.length_map, hp1, hr1, hp3, hr3]
        refine hNn _ (VWp.keep [0,3,4,5] [5] ?_); simp only [go_sem, Int.reduceEq, Int.reduceNe, Int.reduceLT, Int.reduceLE, Nat.reduceEqDiff, Nat.reduceAdd, Nat.reduceMul, Nat.reduceLT, Nat.reduceLeDiff, Nat.reduceSub, reduceCtorEq, reduceIte, Int.reduceToNat, beq_self_eq_true, Bool.and_self, List.take_length, decide_true, Bool.not_true, Bool.not_false]
        refine vmeet (fun z : Bool => [(0, stmsV l), (3, .int .i64 (m : Int)), (4, .int .i64 (q : Int)), (81, .bool z)]) (fun _ => []) (fun z => z = bigP p) ?_ ?_
        · have e1 : decide ((300 : Int) < (p.key.length : Int)) = !decide (p.key.length ≤ 300) := gt_nat 300 _
          have e2 : decide ((300 : Int) < (p.value.length : Int)) = !decide (p.value.length ≤ 300) := gt_nat 300 _
          unfold bigP
          generalize decide (p.key.length ≤ 300) = b1 at e1 ⊢
          generalize decide (p.value.length ≤ 300) = b2 at e2 ⊢
          cases b1 <;> cases b2
          all_goals
            refine vreg tt_ok hF rfl ?_; simp only [go_sem, Int.reduceEq, Int.reduceNe, Int.reduceLT, Int.reduceLE, Nat.reduceEqDiff, Nat.reduceAdd, Nat.reduceMul, Nat.reduceLT, Nat.reduceLeDiff, Nat.reduceSub, reduceCtorEq, reduceIte, Int.reduceToNat, beq_self_eq_true, Bool.and_self, List.take_length, decide_true, Bool.not_true, Bool.not_false, List.length_map, e1, e2]
            try (refine .inl ⟨_, hb2, ?_⟩; try simp only [go_sem, Int.reduceEq, Int.reduceNe, Int.reduceLT, Int.reduceLE, Nat.reduceEqDiff, Nat.reduceAdd, Nat.reduceMul, Nat.reduceLT, Nat.reduceLeDiff, Nat.reduceSub, reduceCtorEq, reduceIte, Int.reduceToNat, beq_self_eq_true, Bool.and_self, List.take_length, decide_true, Bool.not_true, Bool.not_false])
            exact ⟨_, rfl, by simp⟩
        intro y hy
        refine vif rfl ⟨fun ht => ?_, fun hf => ?_⟩
        · have hRt : R = true := hmem (by rw [hdef, List.any_eq_true]; exact ⟨p, List.mem_of_getElem? hp, by rw [← hy, ht]⟩)
          subst hRt
          refine vwp_seq_k fun Np hNp => vreg tt_ok hF rfl ?_; simp only [go_sem, Int.reduceEq, Int.reduceNe, Int.reduceLT, Int.reduceLE, Nat.reduceEqDiff, Nat.reduceAdd, Nat.reduceMul, Nat.reduceLT, Nat.reduceLeDiff, Nat.reduceSub, reduceCtorEq, reduceIte, Int.reduceToNat, beq_self_eq_true, Bool.and_self, List.take_length, decide_true, Bool.not_true, Bool.not_false]
          refine hNp _ (VWp.keep [2] [] ?_); simp only [go_sem, Int.reduceEq, Int.reduceNe, Int.reduceLT, Int.reduceLE, Nat.reduceEqDiff, Nat.reduceAdd, Nat.reduceMul, Nat.reduceLT, Nat.reduceLeDiff, Nat.reduceSub, reduceCtorEq, reduceIte, Int.reduceToNat, beq_self_eq_true, Bool.and_self, List.take_length, decide_true, Bool.not_true, Bool.not_false]
          refine vwp_ret ?_
          simp only [go_sem, Int.reduceEq, Int.reduceNe, Int.reduceLT, Int.reduceLE, Nat.reduceEqDiff, Nat.reduceAdd, Nat.reduceMul, Nat.reduceLT, Nat.reduceLeDiff, Nat.reduceSub, reduceCtorEq, reduceIte, Int.reduceToNat, beq_self_eq_true, Bool.and_self, List.take_length, decide_true, Bool.not_true, Bool.not_false]
          exact LeV.refl _
        · refine vwp_skip (hNm _ ?_)
          refine vreg tt_ok hF rfl ?_; simp only [go_sem, Int.reduceEq, Int.reduceNe, Int.reduceLT, Int.reduceLE, Nat.reduceEqDiff, Nat.reduceAdd, Nat.reduceMul, Nat.reduceLT, Nat.reduceLeDiff, Nat.reduceSub, reduceCtorEq, reduceIte, Int.reduceToNat, beq_self_eq_true, Bool.and_self, List.take_length, decide_true, Bool.not_true, Bool.not_false]
          rw [wrap_i64 (by omega) (by omega)]
          exact ⟨q + 1, ⟨by omega, by rw [any_take_succ _ _ _ _ hp, q2, ← hy, hf]; rfl⟩, by omega, by simp⟩
      · have hq : q = x.params.length := by have := of_decide_eq_false hf; omega
        subst hq
        rw [List.take_length] at q2
        refine vwp_exit ?_
        simp only [go_sem, Int.reduceEq, Int.reduceNe, Int.reduceLT, Int.reduceLE, Nat.reduceEqDiff, Nat.reduceAdd, Nat.reduceMul, Nat.reduceLT, Nat.reduceLeDiff, Nat.reduceSub, reduceCtorEq, reduceIte, Int.reduceToNat, beq_self_eq_true, Bool.and_self, List.take_length, decide_true, Bool.not_true, Bool.not_false]
        refine hNf _ (VWp.keep [0,3] [] ?_); simp only [go_sem, Int.reduceEq, Int.reduceNe, Int.reduceLT, Int.reduceLE, Nat.reduceEqDiff, Nat.reduceAdd, Nat.reduceMul, Nat.reduceLT, Nat.reduceLeDiff, Nat.reduceSub, reduceCtorEq, reduceIte, Int.reduceToNat, beq_self_eq_true, Bool.and_self, List.take_length, decide_true, Bool.not_true, Bool.not_false]
        refine vreg tt_ok hF rfl ?_; simp only [go_sem, Int.reduceEq, Int.reduceNe, Int.reduceLT, Int.reduceLE, Nat.reduceEqDiff, Nat.reduceAdd, Nat.reduceMul, Nat.reduceLT, Nat.reduceLeDiff, Nat.reduceSub, reduceCtorEq, reduceIte, Int.reduceToNat, beq_self_eq_true, Bool.and_self, List.take_length, decide_true, Bool.not_true, Bool.not_false]
        rw [wrap_i64 (by omega) (by omega)]
        exact ⟨m + 1, ⟨by omega, by omega, hstep (by rw [hdef, q2])⟩, by omega, by simp⟩
  · have hlen : l.take 30 = l.take m := by
      rw [hf] at hz
      have hz := hz.symm
      rw [Bool.and_eq_false_iff, decide_eq_false_iff_not, decide_eq_false_iff_not] at hz
      rcases hz with h | h
      · rw [List.take_of_length_le (by omega), List.take_of_length_le (by omega)]
      · rw [show m = 30 by omega]
    have hRe : R = !decide (l.length ≤ 30) := by rw [← hR]; unfold bigL; rw [hlen, m3]; rfl
    have e4 : decide ((30 : Int) < (l.length : Int)) = !decide (l.length ≤ 30) := gt_nat 30 _
    rw [← hRe] at e4
    refine vwp_exit ?_
    simp only [go_sem, Int.reduceEq, Int.reduceNe, Int.reduceLT, Int.reduceLE, Nat.reduceEqDiff, Nat.reduceAdd, Nat.reduceMul, Nat.reduceLT, Nat.reduceLeDiff, Nat.reduceSub, reduceCtorEq, reduceIte, Int.reduceToNat, beq_self_eq_true, Bool.and_self, List.take_length, decide_true, Bool.not_true, Bool.not_false]
    refine hNb _ (VWp.keep [0] [] ?_); simp only [go_sem, Int.reduceEq, Int.reduceNe, Int.reduceLT, Int.reduceLE, Nat.reduceEqDiff, Nat.reduceAdd, Nat.reduceMul, Nat.reduceLT, Nat.reduceLeDiff, Nat.reduceSub, reduceCtorEq, reduceIte, Int.reduceToNat, beq_self_eq_true, Bool.and_self, List.take_length, decide_true, Bool.not_true, Bool.not_false]
    refine vwp_seq_k fun Nq hNq => vreg tt_ok hF rfl ?_; simp only [go_sem, Int.reduceEq, Int.reduceNe, Int.reduceLT, Int.reduceLE, Nat.reduceEqDiff, Nat.reduceAdd, Nat.reduceMul, Nat.reduceLT, Nat.reduceLeDiff, Nat.reduceSub, reduceCtorEq, reduceIte, Int.reduceToNat, beq_self_eq_true, Bool.and_self, List.take_length, decide_true, Bool.not_true, Bool.not_false, List.length_map, e4]
    refine hNq _ (VWp.keep [2] [] ?_); simp only [go_sem, Int.reduceEq, Int.reduceNe, Int.reduceLT, Int.reduceLE, Nat.reduceEqDiff, Nat.reduceAdd, Nat.reduceMul, Nat.reduceLT, Nat.reduceLeDiff, Nat.reduceSub, reduceCtorEq, reduceIte, Int.reduceToNat, beq_self_eq_true, Bool.and_self, List.take_length, decide_true, Bool.not_true, Bool.not_false]
    refine vwp_ret ?_
    simp only [go_sem, Int.reduceEq, Int.reduceNe, Int.reduceLT, Int.reduceLE, Nat.reduceEqDiff, Nat.reduceAdd, Nat.reduceMul, Nat.reduceLT, Nat.reduceLeDiff, Nat.reduceSub, reduceCtorEq, reduceIte, Int.reduceToNat, beq_self_eq_true, Bool.and_self, List.take_length, decide_true, Bool.not_true, Bool.not_false]
    exact LeV.refl _
theorem drop_consS (L : List StmJ) (j : Nat) {l : StmJ} (h : L[j]? = some l) : L.drop j = l :: L.drop (j + 1) := by
  obtain ⟨h1, h2⟩ := List.getElem?_eq_some_iff.1 h
  rw [List.drop_eq_getElem_cons h1, h2]
end Go.Proofs.YtnaljgmcpagbbaaGreatDoor

import Derived.Outline
import Derived.Test.YtnaljgmcpagbbaaDoorKE
import Derived.Test.YtnaljgmcpagbbaaDoorJI

/- The reference of layer 34: names. JclNames. -/
-- SIMP: beq_self_eq_true, Bool.and_self, List.take_length, decide_true, Bool.not_true, Bool.not_false
namespace Go.Proofs.YtnaljgmcpagbbaaDoor
open Go.RowKit
set_option linter.unusedVariables false
set_option linter.unusedSimpArgs false
end Go.Proofs.YtnaljgmcpagbbaaDoor

/- The reference of layer 34: values, parts, texts. -/
-- SIMP: beq_self_eq_true, Bool.and_self, List.take_length, decide_true, Bool.not_true, Bool.not_false
namespace Go.Proofs.YtnaljgmcpagbbaaDoor
open Go.RowKit
set_option linter.unusedVariables false
set_option linter.unusedSimpArgs false
def intsV (l : List Int) : V := .sl 1 (l.map fun x => [V.int .i64 x])
attribute [go_sem] intsV
def plcV (R : Option (List Int × Bool)) : V := match R with
  | some (l, ok) => .tup [intsV l, .bool ok]
  | none => .tup [intsV [], .bool false]
set_option maxHeartbeats 8000000 in
set_option maxRecDepth 4000 in
theorem places_spec (s : Jb) (hs : s.length ≤ 1000000000) : Spec Tryd.prog 40 [.str s] (plcV (plJ s 0 false)) := by
  obtain ⟨R, hR⟩ : ∃ R, plJ s 0 false = R := ⟨_, rfl⟩
  rw [hR]
  refine spec_of tt_ok Tryd.func40 rfl (by decide) Tryd.ntmps40 (congrArg Array.toList Tryd.results40) (by simp) (by decide) (by rcases R with _ | ⟨l, ok⟩ <;> rfl) rfl (fun F hF => ?_)
  refine vwp_seq_k fun Na hNa => vreg tt_ok hF rfl ?_; simp only [go_sem, Int.reduceEq, Int.reduceNe, Int.reduceLT, Int.reduceLE, Nat.reduceEqDiff, Nat.reduceAdd, Nat.reduceMul, Nat.reduceLT, Nat.reduceLeDiff, Nat.reduceSub, reduceCtorEq, reduceIte, Int.reduceToNat, beq_self_eq_true, Bool.and_self, List.take_length, decide_true, Bool.not_true, Bool.not_false]
  refine hNa _ (VWp.keepR [0] [] tt_ok hF rfl fun Nb hNb => ?_); simp only [go_sem, Int.reduceEq, Int.reduceNe, Int.reduceLT, Int.reduceLE, Nat.reduceEqDiff, Nat.reduceAdd, Nat.reduceMul, Nat.reduceLT, Nat.reduceLeDiff, Nat.reduceSub, reduceCtorEq, reduceIte, Int.reduceToNat, beq_self_eq_true, Bool.and_self, List.take_length, decide_true, Bool.not_true, Bool.not_false]
  refine hNb _ (VWp.keepR [0,4] [] tt_ok hF rfl fun Nc hNc => ?_); simp only [go_sem, Int.reduceEq, Int.reduceNe, Int.reduceLT, Int.reduceLE, Nat.reduceEqDiff, Nat.reduceAdd, Nat.reduceMul, Nat.reduceLT, Nat.reduceLeDiff, Nat.reduceSub, reduceCtorEq, reduceIte, Int.reduceToNat, beq_self_eq_true, Bool.and_self, List.take_length, decide_true, Bool.not_true, Bool.not_false]
  refine hNc _ (VWp.keepR [0,4,5] [] tt_ok hF rfl fun Nd hNd => ?_); simp only [go_sem, Int.reduceEq, Int.reduceNe, Int.reduceLT, Int.reduceLE, Nat.reduceEqDiff, Nat.reduceAdd, Nat.reduceMul, Nat.reduceLT, Nat.reduceLeDiff, Nat.reduceSub, reduceCtorEq, reduceIte, Int.reduceToNat, beq_self_eq_true, Bool.and_self, List.take_length, decide_true, Bool.not_true, Bool.not_false]
  refine hNd _ (VWp.keep [0,4,5,6] [] ?_); simp only [go_sem, Int.reduceEq, Int.reduceNe, Int.reduceLT, Int.reduceLE, Nat.reduceEqDiff, Nat.reduceAdd, Nat.reduceMul, Nat.reduceLT, Nat.reduceLeDiff, Nat.reduceSub, reduceCtorEq, reduceIte, Int.reduceToNat, beq_self_eq_true, Bool.and_self, List.take_length, decide_true, Bool.not_true, Bool.not_false]
  refine vwp_seq_k fun Ne hNe => ?_
  refine vwp_seq_k fun Nf hNf => vreg tt_ok hF rfl ?_; simp only [go_sem, Int.reduceEq, Int.reduceNe, Int.reduceLT, Int.reduceLE, Nat.reduceEqDiff, Nat.reduceAdd, Nat.reduceMul, Nat.reduceLT, Nat.reduceLeDiff, Nat.reduceSub, reduceCtorEq, reduceIte, Int.reduceToNat, beq_self_eq_true, Bool.and_self, List.take_length, decide_true, Bool.not_true, Bool.not_false]
  refine hNf _ (VWp.keep [0,4,5,6,7] [] ?_); simp only [go_sem, Int.reduceEq, Int.reduceNe, Int.reduceLT, Int.reduceLE, Nat.reduceEqDiff, Nat.reduceAdd, Nat.reduceMul, Nat.reduceLT, Nat.reduceLeDiff, Nat.reduceSub, reduceCtorEq, reduceIte, Int.reduceToNat, beq_self_eq_true, Bool.and_self, List.take_length, decide_true, Bool.not_true, Bool.not_false]
  refine VWp.adopt 500000 1 3 (x := 4) rfl rfl (by decide) ?_ (closed_of (by simp only [go_sem, Int.reduceEq, Int.reduceNe, Int.reduceLT, Int.reduceLE, Nat.reduceEqDiff, Nat.reduceAdd, Nat.reduceMul, Nat.reduceLT, Nat.reduceLeDiff, Nat.reduceSub, reduceCtorEq, reduceIte, Int.reduceToNat, beq_self_eq_true, Bool.and_self, List.take_length, decide_true, Bool.not_true, Bool.not_false]) (by simp only [go_sem, Int.reduceEq, Int.reduceNe, Int.reduceLT, Int.reduceLE, Nat.reduceEqDiff, Nat.reduceAdd, Nat.reduceMul, Nat.reduceLT, Nat.reduceLeDiff, Nat.reduceSub, reduceCtorEq, reduceIte, Int.reduceToNat, beq_self_eq_true, Bool.and_self, List.take_length, decide_true, Bool.not_true, Bool.not_false]))
  refine VWp.keep [0,4,5,6,7] [500000] ?_; simp only [go_sem, Int.reduceEq, Int.reduceNe, Int.reduceLT, Int.reduceLE, Nat.reduceEqDiff, Nat.reduceAdd, Nat.reduceMul, Nat.reduceLT, Nat.reduceLeDiff, Nat.reduceSub, reduceCtorEq, reduceIte, Int.reduceToNat, beq_self_eq_true, Bool.and_self, List.take_length, decide_true, Bool.not_true, Bool.not_false]
  refine vwp_block (vloop (fun z : Nat × Int × Bool × List Int => [(0, .str s), (4, .own 500000 z.2.2.2.length), (5, .int .i64 z.2.1), (6, .bool z.2.2.1), (7, .int .i64 (z.1 : Int))]) (fun z => [(500000, .arr 1 3 (z.2.2.2.map fun x => [V.int .i64 x]))])
    (fun z => z.1 ≤ s.length ∧ z.2.2.2.length ≤ z.1 ∧ 0 ≤ z.2.1 ∧ z.2.1 ≤ z.1 ∧ (plJ (s.drop z.1) z.2.1 z.2.2.1).map (fun r => (z.2.2.2 ++ r.1, r.2)) = R) (fun z => s.length - z.1) (0, 0, false, []) ⟨Nat.zero_le _, Nat.le_refl _, Int.le_refl _, Int.le_refl _, by show (plJ (s.drop 0) 0 false).map (fun r => ([] ++ r.1, r.2)) = R; rw [List.drop_zero, ← hR]; cases plJ s 0 false <;> rfl⟩ (by simp only [go_sem, Int.reduceEq, Int.reduceNe, Int.reduceLT, Int.reduceLE, Nat.reduceEqDiff, Nat.reduceAdd, Nat.reduceMul, Nat.reduceLT, Nat.reduceLeDiff, Nat.reduceSub, reduceCtorEq, reduceIte, Int.reduceToNat, beq_self_eq_true, Bool.and_self, List.take_length, decide_true, Bool.not_true, Bool.not_false]) ?_)
  rintro ⟨m, d, q, out⟩ ⟨m1, m2, m3, m4, m5⟩
  have m1 : m ≤ s.length := m1
  have m2 : out.length ≤ m := m2
  have m3 : 0 ≤ d := m3
  have m4 : d ≤ (m : Int) := m4
  have m5 : (plJ (s.drop m) d q).map (fun r => (out ++ r.1, r.2)) = R := m5
  try dsimp only
  refine vwp_seq_k fun Ng hNg => ?_
  refine vwp_seq_k fun Nh hNh => vreg tt_ok hF rfl ?_; simp only [go_sem, Int.reduceEq, Int.reduceNe, Int.reduceLT, Int.reduceLE, Nat.reduceEqDiff, Nat.reduceAdd, Nat.reduceMul, Nat.reduceLT, Nat.reduceLeDiff, Nat.reduceSub, reduceCtorEq, reduceIte, Int.reduceToNat, beq_self_eq_true, Bool.and_self, List.take_length, decide_true, Bool.not_true, Bool.not_false]
  refine hNh _ (VWp.keep [0,4,5,6,7,11] [500000] ?_); simp only [go_sem, Int.reduceEq, Int.reduceNe, Int.reduceLT, Int.reduceLE, Nat.reduceEqDiff, Nat.reduceAdd, Nat.reduceMul, Nat.reduceLT, Nat.reduceLeDiff, Nat.reduceSub, reduceCtorEq, reduceIte, Int.reduceToNat, beq_self_eq_true, Bool.and_self, List.take_length, decide_true, Bool.not_true, Bool.not_false]
  refine vif rfl ⟨fun ht => ?_, fun hf => ?_⟩
  · have hlt : m < s.length := by have := of_decide_eq_true ht; omega
    have hpm : (0 : Int) ≤ (m : Int) ∧ (m : Int) < (s.length : Int) := ⟨by omega, by omega⟩
    rw [drop_at s m hlt, plJ_cons] at m5
    have e1 : decide ((((s.getD m 0).toNat : Nat) : Int) = (39 : Int)) = (s.getD m 0 == 39) := u8eq 39 _
    have e2 : decide ((((s.getD m 0).toNat : Nat) : Int) = (41 : Int)) = (s.getD m 0 == 41) := u8eq 41 _
    have e3 : decide ((((s.getD m 0).toNat : Nat) : Int) = (40 : Int)) = (s.getD m 0 == 40) := u8eq 40 _
    refine vwp_skip (hNg _ ?_)
    refine vwp_seq_k fun Ni hNi => ?_
    refine vwp_block ?_
    refine vwp_seq_k fun Nj hNj => ?_
    refine vmeet (fun z : Bool => [(0, .str s), (4, .own 500000 out.length), (5, .int .i64 d), (6, .bool q), (7, .int .i64 (m : Int)), (20, .bool z)]) (fun _ => [(500000, .arr 1 3 (out.map fun x => [V.int .i64 x]))]) (fun z => z = (q || s.getD m 0 == 39)) ?_ ?_
    · cases q
      all_goals
        refine vreg tt_ok hF rfl ?_; simp only [go_sem, Int.reduceEq, Int.reduceNe, Int.reduceLT, Int.reduceLE, Nat.reduceEqDiff, Nat.reduceAdd, Nat.reduceMul, Nat.reduceLT, Nat.reduceLeDiff, Nat.reduceSub, reduceCtorEq, reduceIte, Int.reduceToNat, beq_self_eq_true, Bool.and_self, List.take_length, decide_true, Bool.not_true, Bool.not_false, hpm, e1]
        exact ⟨_, rfl, by simp⟩
    intro z hz
    rw [← hz] at m5
    refine vif rfl ⟨fun ht => ?_, fun hf => ?_⟩
    · rw [ht, if_pos rfl] at m5
      refine vwp_seq_k fun Nl hNl => vreg tt_ok hF rfl ?_; simp only [go_sem, Int.reduceEq, Int.reduceNe, Int.reduceLT, Int.reduceLE, Nat.reduceEqDiff, Nat.reduceAdd, Nat.reduceMul, Nat.reduceLT, Nat.reduceLeDiff, Nat.reduceSub, reduceCtorEq, reduceIte, Int.reduceToNat, beq_self_eq_true, Bool.and_self, List.take_length, decide_true, Bool.not_true, Bool.not_false]
      refine ⟨by omega, ?_⟩
      refine hNl _ (VWp.keep [0,4,5,6,7] [500000] ?_); simp only [go_sem, Int.reduceEq, Int.reduceNe, Int.reduceLT, Int.reduceLE, Nat.reduceEqDiff, Nat.reduceAdd, Nat.reduceMul, Nat.reduceLT, Nat.reduceLeDiff, Nat.reduceSub, reduceCtorEq, reduceIte, Int.reduceToNat, beq_self_eq_true, Bool.and_self, List.take_length, decide_true, Bool.not_true, Bool.not_false]
      refine vmeet (fun y : Bool => [(0, .str s), (4, .own 500000 (out ++ [-1]).length), (5, .int .i64 d), (6, .bool y), (7, .int .i64 (m : Int))]) (fun _ => [(500000, .arr 1 3 ((out ++ [-1]).map fun x => [V.int .i64 x]))]) (fun y => y = if s.getD m 0 == 39 then !q else q) ?_ ?_
      · refine vwp_seq_k fun Nn hNn => vreg tt_ok hF rfl ?_; simp only [go_sem, Int.reduceEq, Int.reduceNe, Int.reduceLT, Int.reduceLE, Nat.reduceEqDiff, Nat.reduceAdd, Nat.reduceMul, Nat.reduceLT, Nat.reduceLeDiff, Nat.reduceSub, reduceCtorEq, reduceIte, Int.reduceToNat, beq_self_eq_true, Bool.and_self, List.take_length, decide_true, Bool.not_true, Bool.not_false, hpm, e1]
        refine hNn _ (VWp.keep [0,4,5,6,7,27] [500000] ?_); simp only [go_sem, Int.reduceEq, Int.reduceNe, Int.reduceLT, Int.reduceLE, Nat.reduceEqDiff, Nat.reduceAdd, Nat.reduceMul, Nat.reduceLT, Nat.reduceLeDiff, Nat.reduceSub, reduceCtorEq, reduceIte, Int.reduceToNat, beq_self_eq_true, Bool.and_self, List.take_length, decide_true, Bool.not_true, Bool.not_false]
        cases hc39 : (s.getD m 0 == 39)
        · refine vif rfl ⟨fun ht => (by cases ht), fun hf => ?_⟩
          refine vwp_skip ?_
          simp only [go_sem, Int.reduceEq, Int.reduceNe, Int.reduceLT, Int.reduceLE, Nat.reduceEqDiff, Nat.reduceAdd, Nat.reduceMul, Nat.reduceLT, Nat.reduceLeDiff, Nat.reduceSub, reduceCtorEq, reduceIte, Int.reduceToNat, beq_self_eq_true, Bool.and_self, List.take_length, decide_true, Bool.not_true, Bool.not_false]
          exact ⟨q, by simp, by simp⟩
        · refine vif rfl ⟨fun ht => ?_, fun hf => (by cases hf)⟩
          refine vreg tt_ok hF rfl ?_; simp only [go_sem, Int.reduceEq, Int.reduceNe, Int.reduceLT, Int.reduceLE, Nat.reduceEqDiff, Nat.reduceAdd, Nat.reduceMul, Nat.reduceLT, Nat.reduceLeDiff, Nat.reduceSub, reduceCtorEq, reduceIte, Int.reduceToNat, beq_self_eq_true, Bool.and_self, List.take_length, decide_true, Bool.not_true, Bool.not_false]
          exact ⟨!q, by simp, by simp⟩
      intro y hy
      refine vwp_exit ?_
      simp only [go_sem, Int.reduceEq, Int.reduceNe, Int.reduceLT, Int.reduceLE, Nat.reduceEqDiff, Nat.reduceAdd, Nat.reduceMul, Nat.reduceLT, Nat.reduceLeDiff, Nat.reduceSub, reduceCtorEq, reduceIte, Int.reduceToNat, beq_self_eq_true, Bool.and_self, List.take_length, decide_true, Bool.not_true, Bool.not_false]
      refine hNi _ (VWp.keep [0,4,5,6,7] [500000] ?_); simp only [go_sem, Int.reduceEq, Int.reduceNe, Int.reduceLT, Int.reduceLE, Nat.reduceEqDiff, Nat.reduceAdd, Nat.reduceMul, Nat.reduceLT, Nat.reduceLeDiff, Nat.reduceSub, reduceCtorEq, reduceIte, Int.reduceToNat, beq_self_eq_true, Bool.and_self, List.take_length, decide_true, Bool.not_true, Bool.not_false]
      refine vreg tt_ok hF rfl ?_; simp only [go_sem, Int.reduceEq, Int.reduceNe, Int.reduceLT, Int.reduceLE, Nat.reduceEqDiff, Nat.reduceAdd, Nat.reduceMul, Nat.reduceLT, Nat.reduceLeDiff, Nat.reduceSub, reduceCtorEq, reduceIte, Int.reduceToNat, beq_self_eq_true, Bool.and_self, List.take_length, decide_true, Bool.not_true, Bool.not_false]
      rw [wrap_i64 (by omega) (by omega)]
      refine ⟨(m + 1, d, y, out ++ [-1]), ⟨by simp only; omega, by simp; omega, m3, by simp only; omega, ?_⟩, by simp only; omega, by simp⟩
      show (plJ (s.drop (m + 1)) d y).map (fun r => (out ++ [-1] ++ r.1, r.2)) = R
      rw [hy, ← m5, Option.map_map]
      cases plJ (s.drop (m + 1)) d (if s.getD m 0 == 39 then !q else q) <;> simp
    · rw [hf] at hz m5
      have hz2 := hz.symm
      rw [Bool.or_eq_false_iff] at hz2
      obtain ⟨hq, hc39⟩ := hz2
      subst hq
      simp only [Bool.false_eq_true, if_false] at m5
      obtain ⟨D, hD⟩ : ∃ D, dnJ (s.getD m 0) d = D := ⟨_, rfl⟩
      rw [hD] at m5
      have hDm : D ≤ d ∧ D = if s.getD m 0 == 41 then d - 1 else d := by rw [← hD]; unfold dnJ; split <;> exact ⟨by omega, rfl⟩
      obtain ⟨hD1, hD2⟩ := hDm
      refine vwp_skip (hNj _ ?_)
      refine vmeet (fun _ : Unit => [(0, .str s), (4, .own 500000 out.length), (5, .int .i64 D), (6, .bool false), (7, .int .i64 (m : Int))]) (fun _ => [(500000, .arr 1 3 (out.map fun x => [V.int .i64 x]))]) (fun _ => ¬ D < 0) ?_ ?_
      · refine vwp_seq_k fun Np hNp => vreg tt_ok hF rfl ?_; simp only [go_sem, Int.reduceEq, Int.reduceNe, Int.reduceLT, Int.reduceLE, Nat.reduceEqDiff, Nat.reduceAdd, Nat.reduceMul, Nat.reduceLT, Nat.reduceLeDiff, Nat.reduceSub, reduceCtorEq, reduceIte, Int.reduceToNat, beq_self_eq_true, Bool.and_self, List.take_length, decide_true, Bool.not_true, Bool.not_false, hpm, e2]
        refine hNp _ (VWp.keep [0,4,5,6,7,33] [500000] ?_); simp only [go_sem, Int.reduceEq, Int.reduceNe, Int.reduceLT, Int.reduceLE, Nat.reduceEqDiff, Nat.reduceAdd, Nat.reduceMul, Nat.reduceLT, Nat.reduceLeDiff, Nat.reduceSub, reduceCtorEq, reduceIte, Int.reduceToNat, beq_self_eq_true, Bool.and_self, List.take_length, decide_true, Bool.not_true, Bool.not_false]
        cases hc41 : (s.getD m 0 == 41)
        · rw [hc41] at hD2
          simp only [Bool.false_eq_true, if_false] at hD2
          subst hD2
          refine vif rfl ⟨fun ht => (by cases ht), fun hf => ?_⟩
          refine vwp_skip ?_
          simp only [go_sem, Int.reduceEq, Int.reduceNe, Int.reduceLT, Int.reduceLE, Nat.reduceEqDiff, Nat.reduceAdd, Nat.reduceMul, Nat.reduceLT, Nat.reduceLeDiff, Nat.reduceSub, reduceCtorEq, reduceIte, Int.reduceToNat, beq_self_eq_true, Bool.and_self, List.take_length, decide_true, Bool.not_true, Bool.not_false]
          first | exact ⟨(), by omega, by simp⟩ | exact ⟨(), by omega⟩
        · rw [hc41, if_pos rfl] at hD2
          have hw : IntKind.i64.wrap (d - 1) = D := by rw [wrap_i64 (by omega) (by omega)]; omega
          refine vif rfl ⟨fun ht => ?_, fun hf => (by cases hf)⟩
          refine vwp_seq_k fun Nq hNq => vreg tt_ok hF rfl ?_; simp only [go_sem, Int.reduceEq, Int.reduceNe, Int.reduceLT, Int.reduceLE, Nat.reduceEqDiff, Nat.reduceAdd, Nat.reduceMul, Nat.reduceLT, Nat.reduceLeDiff, Nat.reduceSub, reduceCtorEq, reduceIte, Int.reduceToNat, beq_self_eq_true, Bool.and_self, List.take_length, decide_true, Bool.not_true, Bool.not_false, hw]
          refine hNq _ (VWp.keepR [0,4,5,6,7] [500000] tt_ok hF rfl fun Nr hNr => ?_); simp only [go_sem, Int.reduceEq, Int.reduceNe, Int.reduceLT, Int.reduceLE, Nat.reduceEqDiff, Nat.reduceAdd, Nat.reduceMul, Nat.reduceLT, Nat.reduceLeDiff, Nat.reduceSub, reduceCtorEq, reduceIte, Int.reduceToNat, beq_self_eq_true, Bool.and_self, List.take_length, decide_true, Bool.not_true, Bool.not_false]
          refine hNr _ (VWp.keep [0,4,5,6,7,37] [500000] ?_); simp only [go_sem, Int.reduceEq, Int.reduceNe, Int.reduceLT, Int.reduceLE, Nat.reduceEqDiff, Nat.reduceAdd, Nat.reduceMul, Nat.reduceLT, Nat.reduceLeDiff, Nat.reduceSub, reduceCtorEq, reduceIte, Int.reduceToNat, beq_self_eq_true, Bool.and_self, List.take_length, decide_true, Bool.not_true, Bool.not_false]
          refine vif rfl ⟨fun ht => ?_, fun hf => ?_⟩
          · have hneg : D < 0 := of_decide_eq_true ht
            have hRn : R = none := by rw [← m5, if_pos hneg]; rfl
            subst hRn
            refine vwp_seq_k fun Ns hNs => vreg tt_ok hF rfl ?_; simp only [go_sem, Int.reduceEq, Int.reduceNe, Int.reduceLT, Int.reduceLE, Nat.reduceEqDiff, Nat.reduceAdd, Nat.reduceMul, Nat.reduceLT, Nat.reduceLeDiff, Nat.reduceSub, reduceCtorEq, reduceIte, Int.reduceToNat, beq_self_eq_true, Bool.and_self, List.take_length, decide_true, Bool.not_true, Bool.not_false]
            refine hNs _ (VWp.keep [2,3] [] ?_); simp only [go_sem, Int.reduceEq, Int.reduceNe, Int.reduceLT, Int.reduceLE, Nat.reduceEqDiff, Nat.reduceAdd, Nat.reduceMul, Nat.reduceLT, Nat.reduceLeDiff, Nat.reduceSub, reduceCtorEq, reduceIte, Int.reduceToNat, beq_self_eq_true, Bool.and_self, List.take_length, decide_true, Bool.not_true, Bool.not_false]
            refine vwp_ret ?_
            simp only [go_sem, Int.reduceEq, Int.reduceNe, Int.reduceLT, Int.reduceLE, Nat.reduceEqDiff, Nat.reduceAdd, Nat.reduceMul, Nat.reduceLT, Nat.reduceLeDiff, Nat.reduceSub, reduceCtorEq, reduceIte, Int.reduceToNat, beq_self_eq_true, Bool.and_self, List.take_length, decide_true, Bool.not_true, Bool.not_false]
            exact LeV.tup ⟨LeV.nil 1, LeV.refl _, trivial⟩
          · refine vwp_skip ?_
            simp only [go_sem, Int.reduceEq, Int.reduceNe, Int.reduceLT, Int.reduceLE, Nat.reduceEqDiff, Nat.reduceAdd, Nat.reduceMul, Nat.reduceLT, Nat.reduceLeDiff, Nat.reduceSub, reduceCtorEq, reduceIte, Int.reduceToNat, beq_self_eq_true, Bool.and_self, List.take_length, decide_true, Bool.not_true, Bool.not_false]
            first | exact ⟨(), of_decide_eq_false hf, by simp⟩ | exact ⟨(), of_decide_eq_false hf⟩
      intro _ hd0
      rw [if_neg hd0] at m5
      refine vwp_seq_k fun Nt hNt => vreg tt_ok hF rfl ?_; simp only [go_sem, Int.reduceEq, Int.reduceNe, Int.reduceLT, Int.reduceLE, Nat.reduceEqDiff, Nat.reduceAdd, Nat.reduceMul, Nat.reduceLT, Nat.reduceLeDiff, Nat.reduceSub, reduceCtorEq, reduceIte, Int.reduceToNat, beq_self_eq_true, Bool.and_self, List.take_length, decide_true, Bool.not_true, Bool.not_false]
      refine ⟨by omega, ?_⟩
      refine hNt _ (VWp.keep [0,4,5,6,7] [500000] ?_); simp only [go_sem, Int.reduceEq, Int.reduceNe, Int.reduceLT, Int.reduceLE, Nat.reduceEqDiff, Nat.reduceAdd, Nat.reduceMul, Nat.reduceLT, Nat.reduceLeDiff, Nat.reduceSub, reduceCtorEq, reduceIte, Int.reduceToNat, beq_self_eq_true, Bool.and_self, List.take_length, decide_true, Bool.not_true, Bool.not_false]
      refine vwp_seq_k fun Nu hNu => vreg tt_ok hF rfl ?_; simp only [go_sem, Int.reduceEq, Int.reduceNe, Int.reduceLT, Int.reduceLE, Nat.reduceEqDiff, Nat.reduceAdd, Nat.reduceMul, Nat.reduceLT, Nat.reduceLeDiff, Nat.reduceSub, reduceCtorEq, reduceIte, Int.reduceToNat, beq_self_eq_true, Bool.and_self, List.take_length, decide_true, Bool.not_true, Bool.not_false, hpm, e3]
      refine hNu _ (VWp.keep [0,4,5,6,7,45] [500000] ?_); simp only [go_sem, Int.reduceEq, Int.reduceNe, Int.reduceLT, Int.reduceLE, Nat.reduceEqDiff, Nat.reduceAdd, Nat.reduceMul, Nat.reduceLT, Nat.reduceLeDiff, Nat.reduceSub, reduceCtorEq, reduceIte, Int.reduceToNat, beq_self_eq_true, Bool.and_self, List.take_length, decide_true, Bool.not_true, Bool.not_false]
      cases hc40 : (s.getD m 0 == 40)
      · have hup : upJ (s.getD m 0) D = D := by unfold upJ; rw [hc40]; rfl
        rw [hup] at m5
        refine vif rfl ⟨fun ht => (by cases ht), fun hf => ?_⟩
        refine vwp_skip (hNi _ ?_)
        refine vreg tt_ok hF rfl ?_; simp only [go_sem, Int.reduceEq, Int.reduceNe, Int.reduceLT, Int.reduceLE, Nat.reduceEqDiff, Nat.reduceAdd, Nat.reduceMul, Nat.reduceLT, Nat.reduceLeDiff, Nat.reduceSub, reduceCtorEq, reduceIte, Int.reduceToNat, beq_self_eq_true, Bool.and_self, List.take_length, decide_true, Bool.not_true, Bool.not_false]
        rw [wrap_i64 (by omega) (by omega)]
        refine ⟨(m + 1, D, false, out ++ [D]), ⟨by simp only; omega, by simp; omega, by simp only; omega, by simp only; omega, ?_⟩, by simp only; omega, by simp⟩
        show (plJ (s.drop (m + 1)) D false).map (fun r => (out ++ [D] ++ r.1, r.2)) = R
        rw [← m5, Option.map_map]
        cases plJ (s.drop (m + 1)) D false <;> simp
      · have hup : upJ (s.getD m 0) D = D + 1 := by unfold upJ; rw [hc40]; rfl
        rw [hup] at m5
        refine vif rfl ⟨fun ht => ?_, fun hf => (by cases hf)⟩
        refine vreg tt_ok hF rfl ?_; simp only [go_sem, Int.reduceEq, Int.reduceNe, Int.reduceLT, Int.reduceLE, Nat.reduceEqDiff, Nat.reduceAdd, Nat.reduceMul, Nat.reduceLT, Nat.reduceLeDiff, Nat.reduceSub, reduceCtorEq, reduceIte, Int.reduceToNat, beq_self_eq_true, Bool.and_self, List.take_length, decide_true, Bool.not_true, Bool.not_false]
        rw [wrap_i64 (by omega) (by omega)]
        refine hNi _ (VWp.keep [0,4,5,6,7] [500000] ?_); simp only [go_sem, Int.reduceEq, Int.reduceNe, Int.reduceLT, Int.reduceLE, Nat.reduceEqDiff, Nat.reduceAdd, Nat.reduceMul, Nat.reduceLT, Nat.reduceLeDiff, Nat.reduceSub, reduceCtorEq, reduceIte, Int.reduceToNat, beq_self_eq_true, Bool.and_self, List.take_length, decide_true, Bool.not_true, Bool.not_false]
        refine vreg tt_ok hF rfl ?_; simp only [go_sem, Int.reduceEq, Int.reduceNe, Int.reduceLT, Int.reduceLE, Nat.reduceEqDiff, Nat.reduceAdd, Nat.reduceMul, Nat.reduceLT, Nat.reduceLeDiff, Nat.reduceSub, reduceCtorEq, reduceIte, Int.reduceToNat, beq_self_eq_true, Bool.and_self, List.take_length, decide_true, Bool.not_true, Bool.not_false]
        rw [wrap_i64 (by omega) (by omega)]
        refine ⟨(m + 1, D + 1, false, out ++ [D]), ⟨by simp only; omega, by simp; omega, by simp only; omega, by simp only; omega, ?_⟩, by simp only; omega, by simp⟩
        show (plJ (s.drop (m + 1)) (D + 1) false).map (fun r => (out ++ [D] ++ r.1, r.2)) = R
        rw [← m5, Option.map_map]
        cases plJ (s.drop (m + 1)) (D + 1) false <;> simp
  · have hm : m = s.length := by have := of_decide_eq_false hf; omega
    subst hm
    rw [List.drop_length] at m5
    have m5 : some (out ++ [], d == 0 && !q) = R := m5
    rw [List.append_nil] at m5
    subst m5
    have e4 : decide (d = 0) = (d == 0) := inteq d 0
    refine vwp_exit ?_
    simp only [go_sem, Int.reduceEq, Int.reduceNe, Int.reduceLT, Int.reduceLE, Nat.reduceEqDiff, Nat.reduceAdd, Nat.reduceMul, Nat.reduceLT, Nat.reduceLeDiff, Nat.reduceSub, reduceCtorEq, reduceIte, Int.reduceToNat, beq_self_eq_true, Bool.and_self, List.take_length, decide_true, Bool.not_true, Bool.not_false]
    refine hNe _ (VWp.keep [4,5,6] [500000] ?_); simp only [go_sem, Int.reduceEq, Int.reduceNe, Int.reduceLT, Int.reduceLE, Nat.reduceEqDiff, Nat.reduceAdd, Nat.reduceMul, Nat.reduceLT, Nat.reduceLeDiff, Nat.reduceSub, reduceCtorEq, reduceIte, Int.reduceToNat, beq_self_eq_true, Bool.and_self, List.take_length, decide_true, Bool.not_true, Bool.not_false]
    generalize (d == 0) = b at e4
    cases b
    all_goals
      refine vwp_seq_k fun Nv hNv => vreg tt_ok hF rfl ?_; simp only [go_sem, Int.reduceEq, Int.reduceNe, Int.reduceLT, Int.reduceLE, Nat.reduceEqDiff, Nat.reduceAdd, Nat.reduceMul, Nat.reduceLT, Nat.reduceLeDiff, Nat.reduceSub, reduceCtorEq, reduceIte, Int.reduceToNat, beq_self_eq_true, Bool.and_self, List.take_length, decide_true, Bool.not_true, Bool.not_false, e4]
      refine hNv _ (VWp.keep [2,3] [500000] ?_); simp only [go_sem, Int.reduceEq, Int.reduceNe, Int.reduceLT, Int.reduceLE, Nat.reduceEqDiff, Nat.reduceAdd, Nat.reduceMul, Nat.reduceLT, Nat.reduceLeDiff, Nat.reduceSub, reduceCtorEq, reduceIte, Int.reduceToNat, beq_self_eq_true, Bool.and_self, List.take_length, decide_true, Bool.not_true, Bool.not_false]
      refine vwp_ret ?_
      simp only [go_sem, Int.reduceEq, Int.reduceNe, Int.reduceLT, Int.reduceLE, Nat.reduceEqDiff, Nat.reduceAdd, Nat.reduceMul, Nat.reduceLT, Nat.reduceLeDiff, Nat.reduceSub, reduceCtorEq, reduceIte, Int.reduceToNat, beq_self_eq_true, Bool.and_self, List.take_length, decide_true, Bool.not_true, Bool.not_false]
      exact LeV.of_eq (by simp [plcV, intsV])
theorem plc_cases (s : Jb) : ∃ (l : List Int) (ok : Bool), plcV (plJ s 0 false) = .tup [intsV l, .bool ok] ∧ (ok = true → plJ s 0 false = some (l, true)) ∧ (ok = false → valueJ s = false ∧ splitJ s = none) ∧ l.length ≤ s.length := by
  cases h : plJ s 0 false with
  | none => exact ⟨[], false, rfl, (fun e => by cases e), (fun _ => ⟨value_no h, split_no h⟩), by simp⟩
  | some r =>
    obtain ⟨l, ok⟩ := r
    refine ⟨l, ok, rfl, (fun e => by rw [e]), (fun e => ?_), by rw [(pl_some h).1]; omega⟩
    subst e
    exact ⟨by rw [value_of h]; rfl, by rw [split_of h]; rfl⟩
theorem drop_consI (L : List Int) (j : Nat) (h : j < L.length) : L.drop j = L.getD j 0 :: L.drop (j + 1) := by
  rw [List.drop_eq_getElem_cons h, List.getD_eq_getElem?_getD, List.getElem?_eq_getElem h]; rfl
theorem int_row (l : List Int) (m : Nat) (h : m < l.length) : (l.map fun x => [V.int .i64 x]).getD m [] = [.int .i64 (l.getD m 0)] := by
  rw [List.getD_eq_getElem?_getD, List.getElem?_map, List.getElem?_eq_getElem h, List.getD_eq_getElem?_getD, List.getElem?_eq_getElem h]; rfl
end Go.Proofs.YtnaljgmcpagbbaaDoor

/- The reference of layer 34: values, parts, texts, parameters found. -/
-- SIMP: beq_self_eq_true, Bool.and_self, List.take_length, decide_true, Bool.not_true, Bool.not_false
namespace Go.Proofs.YtnaljgmcpagbbaaDoor
open Go.RowKit
set_option linter.unusedVariables false
set_option linter.unusedSimpArgs false
set_option maxHeartbeats 8000000 in
set_option maxRecDepth 4000 in
theorem plain_spec (s : Jb) (hs : s.length ≤ 1000000000) : Spec Tryd.prog 62 [.str s] (.bool (textJ s)) := by
  refine spec_of tt_ok Tryd.func62 rfl (by decide) Tryd.ntmps62 (congrArg Array.toList Tryd.results62) (by simp) (by decide) rfl rfl (fun F hF => ?_)
  refine vwp_seq_k fun Na hNa => vreg tt_ok hF rfl ?_; simp only [go_sem, Int.reduceEq, Int.reduceNe, Int.reduceLT, Int.reduceLE, Nat.reduceEqDiff, Nat.reduceAdd, Nat.reduceMul, Nat.reduceLT, Nat.reduceLeDiff, Nat.reduceSub, reduceCtorEq, reduceIte, Int.reduceToNat, beq_self_eq_true, Bool.and_self, List.take_length, decide_true, Bool.not_true, Bool.not_false]
  refine hNa _ (VWp.keep [0] [] ?_); simp only [go_sem, Int.reduceEq, Int.reduceNe, Int.reduceLT, Int.reduceLE, Nat.reduceEqDiff, Nat.reduceAdd, Nat.reduceMul, Nat.reduceLT, Nat.reduceLeDiff, Nat.reduceSub, reduceCtorEq, reduceIte, Int.reduceToNat, beq_self_eq_true, Bool.and_self, List.take_length, decide_true, Bool.not_true, Bool.not_false]
  refine vwp_seq_k fun Nb hNb => ?_
  refine vwp_seq_k fun Nc hNc => vreg tt_ok hF rfl ?_; simp only [go_sem, Int.reduceEq, Int.reduceNe, Int.reduceLT, Int.reduceLE, Nat.reduceEqDiff, Nat.reduceAdd, Nat.reduceMul, Nat.reduceLT, Nat.reduceLeDiff, Nat.reduceSub, reduceCtorEq, reduceIte, Int.reduceToNat, beq_self_eq_true, Bool.and_self, List.take_length, decide_true, Bool.not_true, Bool.not_false]
  refine hNc _ (VWp.keep [0,3] [] ?_); simp only [go_sem, Int.reduceEq, Int.reduceNe, Int.reduceLT, Int.reduceLE, Nat.reduceEqDiff, Nat.reduceAdd, Nat.reduceMul, Nat.reduceLT, Nat.reduceLeDiff, Nat.reduceSub, reduceCtorEq, reduceIte, Int.reduceToNat, beq_self_eq_true, Bool.and_self, List.take_length, decide_true, Bool.not_true, Bool.not_false]
  refine vwp_block (vloop (fun k : Nat => [(0, .str s), (3, .int .i64 (k : Int))]) (fun _ => []) (fun k => k ≤ s.length ∧ ∀ j < k, (decide (32 ≤ s.getD j 0) && decide (s.getD j 0 ≤ 126)) = true) (fun k => s.length - k) 0 ⟨by omega, fun j hj => by omega⟩ (by simp only [go_sem, Int.reduceEq, Int.reduceNe, Int.reduceLT, Int.reduceLE, Nat.reduceEqDiff, Nat.reduceAdd, Nat.reduceMul, Nat.reduceLT, Nat.reduceLeDiff, Nat.reduceSub, reduceCtorEq, reduceIte, Int.reduceToNat, beq_self_eq_true, Bool.and_self, List.take_length, decide_true, Bool.not_true, Bool.not_false]) ?_)
  rintro k ⟨hk, hall⟩
  refine vwp_seq_k fun Nd hNd => ?_
  refine vwp_seq_k fun Ne hNe => vreg tt_ok hF rfl ?_; simp only [go_sem, Int.reduceEq, Int.reduceNe, Int.reduceLT, Int.reduceLE, Nat.reduceEqDiff, Nat.reduceAdd, Nat.reduceMul, Nat.reduceLT, Nat.reduceLeDiff, Nat.reduceSub, reduceCtorEq, reduceIte, Int.reduceToNat, beq_self_eq_true, Bool.and_self, List.take_length, decide_true, Bool.not_true, Bool.not_false]
  refine hNe _ (VWp.keep [0,3,7] [] ?_); simp only [go_sem, Int.reduceEq, Int.reduceNe, Int.reduceLT, Int.reduceLE, Nat.reduceEqDiff, Nat.reduceAdd, Nat.reduceMul, Nat.reduceLT, Nat.reduceLeDiff, Nat.reduceSub, reduceCtorEq, reduceIte, Int.reduceToNat, beq_self_eq_true, Bool.and_self, List.take_length, decide_true, Bool.not_true, Bool.not_false]
  refine vif rfl ⟨fun ht => ?_, fun hf => ?_⟩
  · have hlt : k < s.length := by have := of_decide_eq_true ht; omega
    refine vwp_skip (hNd _ ?_)
    refine vwp_seq_k fun Nf hNf => ?_
    refine vwp_block ?_
    refine vmeet (fun y : Bool => [(0, .str s), (3, .int .i64 (k : Int)), (19, .bool y)]) (fun _ => []) (fun y => y = !(decide (32 ≤ s.getD k 0) && decide (s.getD k 0 ≤ 126))) ?_ ?_
    · have e1 : decide ((((s.getD k 0).toNat : Nat) : Int) < (32 : Int)) = !decide ((32 : UInt8) ≤ s.getD k 0) := u8lt 32 _
      have e2 : decide ((126 : Int) < (((s.getD k 0).toNat : Nat) : Int)) = !decide (s.getD k 0 ≤ (126 : UInt8)) := u8gt 126 _
      have hp : (0 : Int) ≤ (k : Int) ∧ (k : Int) < (s.length : Int) := ⟨by omega, by omega⟩
      generalize decide ((32 : UInt8) ≤ s.getD k 0) = b1 at e1
      generalize decide (s.getD k 0 ≤ (126 : UInt8)) = b2 at e2
      cases b1 <;> cases b2
      all_goals
        refine vreg tt_ok hF rfl ?_; simp only [go_sem, Int.reduceEq, Int.reduceNe, Int.reduceLT, Int.reduceLE, Nat.reduceEqDiff, Nat.reduceAdd, Nat.reduceMul, Nat.reduceLT, Nat.reduceLeDiff, Nat.reduceSub, reduceCtorEq, reduceIte, Int.reduceToNat, beq_self_eq_true, Bool.and_self, List.take_length, decide_true, Bool.not_true, Bool.not_false, hp, e1, e2]
        exact ⟨_, rfl, by simp⟩
    intro y hy
    refine vif rfl ⟨fun ht => ?_, fun hf => ?_⟩
    · refine vwp_seq_k fun Ni hNi => vreg tt_ok hF rfl ?_; simp only [go_sem, Int.reduceEq, Int.reduceNe, Int.reduceLT, Int.reduceLE, Nat.reduceEqDiff, Nat.reduceAdd, Nat.reduceMul, Nat.reduceLT, Nat.reduceLeDiff, Nat.reduceSub, reduceCtorEq, reduceIte, Int.reduceToNat, beq_self_eq_true, Bool.and_self, List.take_length, decide_true, Bool.not_true, Bool.not_false]
      refine hNi _ (VWp.keep [2] [] ?_); simp only [go_sem, Int.reduceEq, Int.reduceNe, Int.reduceLT, Int.reduceLE, Nat.reduceEqDiff, Nat.reduceAdd, Nat.reduceMul, Nat.reduceLT, Nat.reduceLeDiff, Nat.reduceSub, reduceCtorEq, reduceIte, Int.reduceToNat, beq_self_eq_true, Bool.and_self, List.take_length, decide_true, Bool.not_true, Bool.not_false]
      refine vwp_ret ?_
      simp only [go_sem, Int.reduceEq, Int.reduceNe, Int.reduceLT, Int.reduceLE, Nat.reduceEqDiff, Nat.reduceAdd, Nat.reduceMul, Nat.reduceLT, Nat.reduceLeDiff, Nat.reduceSub, reduceCtorEq, reduceIte, Int.reduceToNat, beq_self_eq_true, Bool.and_self, List.take_length, decide_true, Bool.not_true, Bool.not_false]
      refine LeV.of_eq (congrArg V.bool ?_)
      rw [ht] at hy
      cases hn : textJ s with
      | false => rfl
      | true =>
        have := (textJ_iff s).1 hn k hlt
        rw [this] at hy; cases hy
    · refine vwp_skip (hNf _ ?_)
      refine vreg tt_ok hF rfl ?_; simp only [go_sem, Int.reduceEq, Int.reduceNe, Int.reduceLT, Int.reduceLE, Nat.reduceEqDiff, Nat.reduceAdd, Nat.reduceMul, Nat.reduceLT, Nat.reduceLeDiff, Nat.reduceSub, reduceCtorEq, reduceIte, Int.reduceToNat, beq_self_eq_true, Bool.and_self, List.take_length, decide_true, Bool.not_true, Bool.not_false]
      rw [wrap_i64 (by omega) (by omega)]
      refine ⟨k + 1, ⟨by omega, fun j hj => ?_⟩, by omega, by simp⟩
      rcases Nat.lt_succ_iff_lt_or_eq.1 hj with h | h
      · exact hall j h
      · subst h; rw [hf] at hy; simpa using hy.symm
  · have hk2 : k = s.length := by have := of_decide_eq_false hf; omega
    refine vwp_exit ?_
    simp only [go_sem, Int.reduceEq, Int.reduceNe, Int.reduceLT, Int.reduceLE, Nat.reduceEqDiff, Nat.reduceAdd, Nat.reduceMul, Nat.reduceLT, Nat.reduceLeDiff, Nat.reduceSub, reduceCtorEq, reduceIte, Int.reduceToNat, beq_self_eq_true, Bool.and_self, List.take_length, decide_true, Bool.not_true, Bool.not_false]
    refine hNb _ (VWp.keepR [] [] tt_ok hF rfl fun Nj hNj => ?_); simp only [go_sem, Int.reduceEq, Int.reduceNe, Int.reduceLT, Int.reduceLE, Nat.reduceEqDiff, Nat.reduceAdd, Nat.reduceMul, Nat.reduceLT, Nat.reduceLeDiff, Nat.reduceSub, reduceCtorEq, reduceIte, Int.reduceToNat, beq_self_eq_true, Bool.and_self, List.take_length, decide_true, Bool.not_true, Bool.not_false]
    refine hNj _ (VWp.keep [2] [] ?_); simp only [go_sem, Int.reduceEq, Int.reduceNe, Int.reduceLT, Int.reduceLE, Nat.reduceEqDiff, Nat.reduceAdd, Nat.reduceMul, Nat.reduceLT, Nat.reduceLeDiff, Nat.reduceSub, reduceCtorEq, reduceIte, Int.reduceToNat, beq_self_eq_true, Bool.and_self, List.take_length, decide_true, Bool.not_true, Bool.not_false]
    refine vwp_ret ?_
    simp only [go_sem, Int.reduceEq, Int.reduceNe, Int.reduceLT, Int.reduceLE, Nat.reduceEqDiff, Nat.reduceAdd, Nat.reduceMul, Nat.reduceLT, Nat.reduceLeDiff, Nat.reduceSub, reduceCtorEq, reduceIte, Int.reduceToNat, beq_self_eq_true, Bool.and_self, List.take_length, decide_true, Bool.not_true, Bool.not_false]
    exact LeV.of_eq (congrArg V.bool ((textJ_iff s).2 (fun j hj => hall j (by omega))).symm)
set_option maxHeartbeats 8000000 in
set_option maxRecDepth 4000 in
theorem rValue_spec (s : Jb) (hs : s.length ≤ 1000000000) : Spec Tryd.prog 39 [.str s] (.bool (valueJ s)) := by
  have h1 := places_spec s hs
  have h2 := plain_spec s hs
  obtain ⟨l, ok, hv, hok, hno, hln⟩ := plc_cases s
  rw [hv] at h1
  obtain ⟨R, hR⟩ : ∃ R, valueJ s = R := ⟨_, rfl⟩
  rw [hR] at hno ⊢
  cases ok
  · obtain ⟨hRf, _⟩ := hno rfl
    subst hRf
    refine spec_of tt_ok Tryd.func39 rfl (by decide) Tryd.ntmps39 (congrArg Array.toList Tryd.results39) (by simp) (by decide) rfl rfl (fun F hF => ?_)
    refine vwp_seq_k fun Na hNa => vreg tt_ok hF rfl ?_; simp only [go_sem, Int.reduceEq, Int.reduceNe, Int.reduceLT, Int.reduceLE, Nat.reduceEqDiff, Nat.reduceAdd, Nat.reduceMul, Nat.reduceLT, Nat.reduceLeDiff, Nat.reduceSub, reduceCtorEq, reduceIte, Int.reduceToNat, beq_self_eq_true, Bool.and_self, List.take_length, decide_true, Bool.not_true, Bool.not_false]
    refine hNa _ (VWp.keepR [0] [] tt_ok hF rfl fun Nb hNb => ?_); simp only [go_sem, Int.reduceEq, Int.reduceNe, Int.reduceLT, Int.reduceLE, Nat.reduceEqDiff, Nat.reduceAdd, Nat.reduceMul, Nat.reduceLT, Nat.reduceLeDiff, Nat.reduceSub, reduceCtorEq, reduceIte, Int.reduceToNat, beq_self_eq_true, Bool.and_self, List.take_length, decide_true, Bool.not_true, Bool.not_false]
    refine .inl ⟨_, h1, ?_⟩; try simp only [go_sem, Int.reduceEq, Int.reduceNe, Int.reduceLT, Int.reduceLE, Nat.reduceEqDiff, Nat.reduceAdd, Nat.reduceMul, Nat.reduceLT, Nat.reduceLeDiff, Nat.reduceSub, reduceCtorEq, reduceIte, Int.reduceToNat, beq_self_eq_true, Bool.and_self, List.take_length, decide_true, Bool.not_true, Bool.not_false]
    refine hNb _ (VWp.keep [0,3,4] [] ?_); simp only [go_sem, Int.reduceEq, Int.reduceNe, Int.reduceLT, Int.reduceLE, Nat.reduceEqDiff, Nat.reduceAdd, Nat.reduceMul, Nat.reduceLT, Nat.reduceLeDiff, Nat.reduceSub, reduceCtorEq, reduceIte, Int.reduceToNat, beq_self_eq_true, Bool.and_self, List.take_length, decide_true, Bool.not_true, Bool.not_false]
    refine vwp_seq_k fun Nc hNc => ?_
    refine vwp_seq_k fun Nd hNd => vreg tt_ok hF rfl ?_; simp only [go_sem, Int.reduceEq, Int.reduceNe, Int.reduceLT, Int.reduceLE, Nat.reduceEqDiff, Nat.reduceAdd, Nat.reduceMul, Nat.reduceLT, Nat.reduceLeDiff, Nat.reduceSub, reduceCtorEq, reduceIte, Int.reduceToNat, beq_self_eq_true, Bool.and_self, List.take_length, decide_true, Bool.not_true, Bool.not_false]
    refine hNd _ (VWp.keep [0,3,4,5] [] ?_); simp only [go_sem, Int.reduceEq, Int.reduceNe, Int.reduceLT, Int.reduceLE, Nat.reduceEqDiff, Nat.reduceAdd, Nat.reduceMul, Nat.reduceLT, Nat.reduceLeDiff, Nat.reduceSub, reduceCtorEq, reduceIte, Int.reduceToNat, beq_self_eq_true, Bool.and_self, List.take_length, decide_true, Bool.not_true, Bool.not_false]
    refine vwp_block (vloop (fun _ : Unit => [(0, .str s), (3, intsV l), (4, .bool false), (5, .int .i64 0)]) (fun _ => []) (fun _ => True) (fun _ => 0) () trivial (by simp only [go_sem, Int.reduceEq, Int.reduceNe, Int.reduceLT, Int.reduceLE, Nat.reduceEqDiff, Nat.reduceAdd, Nat.reduceMul, Nat.reduceLT, Nat.reduceLeDiff, Nat.reduceSub, reduceCtorEq, reduceIte, Int.reduceToNat, beq_self_eq_true, Bool.and_self, List.take_length, decide_true, Bool.not_true, Bool.not_false]) ?_)
    rintro _ _
    refine vwp_seq_k fun Ne hNe => ?_
    refine vmeet (fun y : Bool => [(0, .str s), (3, intsV l), (4, .bool false), (5, .int .i64 0), (17, .bool y)]) (fun _ => []) (fun y => y = false) ?_ ?_
    · have e1 : decide ((0 : Int) < (l.length : Int)) = decide (0 < l.length) := by apply decide_eq_decide.2; omega
      generalize decide (0 < l.length) = b1 at e1
      cases b1
      all_goals
        refine vreg tt_ok hF rfl ?_; simp only [go_sem, Int.reduceEq, Int.reduceNe, Int.reduceLT, Int.reduceLE, Nat.reduceEqDiff, Nat.reduceAdd, Nat.reduceMul, Nat.reduceLT, Nat.reduceLeDiff, Nat.reduceSub, reduceCtorEq, reduceIte, Int.reduceToNat, beq_self_eq_true, Bool.and_self, List.take_length, decide_true, Bool.not_true, Bool.not_false, List.length_map, e1]
        exact ⟨false, rfl, by simp⟩
    intro y hy
    subst hy
    refine vif rfl ⟨fun ht => (by cases ht), fun hf => ?_⟩
    refine vwp_exit ?_
    simp only [go_sem, Int.reduceEq, Int.reduceNe, Int.reduceLT, Int.reduceLE, Nat.reduceEqDiff, Nat.reduceAdd, Nat.reduceMul, Nat.reduceLT, Nat.reduceLeDiff, Nat.reduceSub, reduceCtorEq, reduceIte, Int.reduceToNat, beq_self_eq_true, Bool.and_self, List.take_length, decide_true, Bool.not_true, Bool.not_false]
    refine hNc _ (VWp.keepR [0,4] [] tt_ok hF rfl fun Nj hNj => ?_); simp only [go_sem, Int.reduceEq, Int.reduceNe, Int.reduceLT, Int.reduceLE, Nat.reduceEqDiff, Nat.reduceAdd, Nat.reduceMul, Nat.reduceLT, Nat.reduceLeDiff, Nat.reduceSub, reduceCtorEq, reduceIte, Int.reduceToNat, beq_self_eq_true, Bool.and_self, List.take_length, decide_true, Bool.not_true, Bool.not_false]
    refine hNj _ (VWp.keep [2] [] ?_); simp only [go_sem, Int.reduceEq, Int.reduceNe, Int.reduceLT, Int.reduceLE, Nat.reduceEqDiff, Nat.reduceAdd, Nat.reduceMul, Nat.reduceLT, Nat.reduceLeDiff, Nat.reduceSub, reduceCtorEq, reduceIte, Int.reduceToNat, beq_self_eq_true, Bool.and_self, List.take_length, decide_true, Bool.not_true, Bool.not_false]
    refine vwp_ret ?_
    simp only [go_sem, Int.reduceEq, Int.reduceNe, Int.reduceLT, Int.reduceLE, Nat.reduceEqDiff, Nat.reduceAdd, Nat.reduceMul, Nat.reduceLT, Nat.reduceLeDiff, Nat.reduceSub, reduceCtorEq, reduceIte, Int.reduceToNat, beq_self_eq_true, Bool.and_self, List.take_length, decide_true, Bool.not_true, Bool.not_false]
    exact LeV.refl _
  · have hpl := hok rfl
    obtain ⟨hlen, _, _⟩ := pl_some hpl
    have hval := value_of hpl
    rw [hR] at hval
    have hz := zip_all s l hlen okV
    refine spec_of tt_ok Tryd.func39 rfl (by decide) Tryd.ntmps39 (congrArg Array.toList Tryd.results39) (by simp) (by decide) rfl rfl (fun F hF => ?_)
    refine vwp_seq_k fun Na hNa => vreg tt_ok hF rfl ?_; simp only [go_sem, Int.reduceEq, Int.reduceNe, Int.reduceLT, Int.reduceLE, Nat.reduceEqDiff, Nat.reduceAdd, Nat.reduceMul, Nat.reduceLT, Nat.reduceLeDiff, Nat.reduceSub, reduceCtorEq, reduceIte, Int.reduceToNat, beq_self_eq_true, Bool.and_self, List.take_length, decide_true, Bool.not_true, Bool.not_false]
    refine hNa _ (VWp.keepR [0] [] tt_ok hF rfl fun Nb hNb => ?_); simp only [go_sem, Int.reduceEq, Int.reduceNe, Int.reduceLT, Int.reduceLE, Nat.reduceEqDiff, Nat.reduceAdd, Nat.reduceMul, Nat.reduceLT, Nat.reduceLeDiff, Nat.reduceSub, reduceCtorEq, reduceIte, Int.reduceToNat, beq_self_eq_true, Bool.and_self, List.take_length, decide_true, Bool.not_true, Bool.not_false]
    refine .inl ⟨_, h1, ?_⟩; try simp only [go_sem, Int.reduceEq, Int.reduceNe, Int.reduceLT, Int.reduceLE, Nat.reduceEqDiff, Nat.reduceAdd, Nat.reduceMul, Nat.reduceLT, Nat.reduceLeDiff, Nat.reduceSub, reduceCtorEq, reduceIte, Int.reduceToNat, beq_self_eq_true, Bool.and_self, List.take_length, decide_true, Bool.not_true, Bool.not_false]
    refine hNb _ (VWp.keep [0,3,4] [] ?_); simp only [go_sem, Int.reduceEq, Int.reduceNe, Int.reduceLT, Int.reduceLE, Nat.reduceEqDiff, Nat.reduceAdd, Nat.reduceMul, Nat.reduceLT, Nat.reduceLeDiff, Nat.reduceSub, reduceCtorEq, reduceIte, Int.reduceToNat, beq_self_eq_true, Bool.and_self, List.take_length, decide_true, Bool.not_true, Bool.not_false]
    refine vwp_seq_k fun Nc hNc => ?_
    refine vwp_seq_k fun Nd hNd => vreg tt_ok hF rfl ?_; simp only [go_sem, Int.reduceEq, Int.reduceNe, Int.reduceLT, Int.reduceLE, Nat.reduceEqDiff, Nat.reduceAdd, Nat.reduceMul, Nat.reduceLT, Nat.reduceLeDiff, Nat.reduceSub, reduceCtorEq, reduceIte, Int.reduceToNat, beq_self_eq_true, Bool.and_self, List.take_length, decide_true, Bool.not_true, Bool.not_false]
    refine hNd _ (VWp.keep [0,3,4,5] [] ?_); simp only [go_sem, Int.reduceEq, Int.reduceNe, Int.reduceLT, Int.reduceLE, Nat.reduceEqDiff, Nat.reduceAdd, Nat.reduceMul, Nat.reduceLT, Nat.reduceLeDiff, Nat.reduceSub, reduceCtorEq, reduceIte, Int.reduceToNat, beq_self_eq_true, Bool.and_self, List.take_length, decide_true, Bool.not_true, Bool.not_false]
    refine vwp_block (vloop (fun m : Nat => [(0, .str s), (3, intsV l), (4, .bool true), (5, .int .i64 (m : Int))]) (fun _ => []) (fun m => m ≤ s.length ∧ ∀ j < m, okV (s.getD j 0) (l.getD j 0) = true) (fun m => s.length - m) 0 ⟨Nat.zero_le _, fun j hj => by omega⟩ (by simp only [go_sem, Int.reduceEq, Int.reduceNe, Int.reduceLT, Int.reduceLE, Nat.reduceEqDiff, Nat.reduceAdd, Nat.reduceMul, Nat.reduceLT, Nat.reduceLeDiff, Nat.reduceSub, reduceCtorEq, reduceIte, Int.reduceToNat, beq_self_eq_true, Bool.and_self, List.take_length, decide_true, Bool.not_true, Bool.not_false]) ?_)
    rintro m ⟨m1, m2⟩
    have e0 : decide ((m : Int) < (l.length : Int)) = decide (m < s.length) := by apply decide_eq_decide.2; omega
    refine vwp_seq_k fun Ne hNe => ?_
    refine vmeet (fun y : Bool => [(0, .str s), (3, intsV l), (4, .bool true), (5, .int .i64 (m : Int)), (17, .bool y)]) (fun _ => []) (fun y => y = decide (m < s.length)) ?_ ?_
    · generalize decide (m < s.length) = b1 at e0
      cases b1
      all_goals
        refine vreg tt_ok hF rfl ?_; simp only [go_sem, Int.reduceEq, Int.reduceNe, Int.reduceLT, Int.reduceLE, Nat.reduceEqDiff, Nat.reduceAdd, Nat.reduceMul, Nat.reduceLT, Nat.reduceLeDiff, Nat.reduceSub, reduceCtorEq, reduceIte, Int.reduceToNat, beq_self_eq_true, Bool.and_self, List.take_length, decide_true, Bool.not_true, Bool.not_false, List.length_map, e0]
        exact ⟨_, rfl, by simp⟩
    intro y hy
    subst hy
    refine vif rfl ⟨fun ht => ?_, fun hf => ?_⟩
    · have hlt : m < s.length := of_decide_eq_true ht
      have hpm : (0 : Int) ≤ (m : Int) ∧ (m : Int) < (s.length : Int) := ⟨by omega, by omega⟩
      have hpl2 : (0 : Int) ≤ (m : Int) ∧ (m : Int) < (l.length : Int) := ⟨by omega, by omega⟩
      have hrow := int_row l m (by omega)
      refine vwp_skip (hNe _ ?_)
      refine vwp_seq_k fun Ng hNg => ?_
      refine vwp_block ?_
      refine vmeet (fun y : Bool => [(0, .str s), (3, intsV l), (4, .bool true), (5, .int .i64 (m : Int)), (43, .bool y)]) (fun _ => []) (fun y => y = !okV (s.getD m 0) (l.getD m 0)) ?_ ?_
      · have e1 : decide ((((s.getD m 0).toNat : Nat) : Int) = (32 : Int)) = (s.getD m 0 == 32) := u8eq 32 _
        have e2 : decide ((((s.getD m 0).toNat : Nat) : Int) = (44 : Int)) = (s.getD m 0 == 44) := u8eq 44 _
        have e3 : decide (l.getD m 0 = 0) = (l.getD m 0 == 0) := inteq _ _
        unfold okV
        generalize (s.getD m 0 == 32) = b1 at e1 ⊢
        generalize (s.getD m 0 == 44) = b2 at e2 ⊢
        generalize (l.getD m 0 == 0) = b3 at e3 ⊢
        generalize hb4 : decide (0 ≤ l.getD m 0) = b4
        cases b1 <;> cases b2 <;> cases b4
        all_goals
          refine vreg tt_ok hF rfl ?_; simp only [go_sem, Int.reduceEq, Int.reduceNe, Int.reduceLT, Int.reduceLE, Nat.reduceEqDiff, Nat.reduceAdd, Nat.reduceMul, Nat.reduceLT, Nat.reduceLeDiff, Nat.reduceSub, reduceCtorEq, reduceIte, Int.reduceToNat, beq_self_eq_true, Bool.and_self, List.take_length, decide_true, Bool.not_true, Bool.not_false, hpm, hpl2, hrow, List.length_map, e1, e2, e3, hb4]
          exact ⟨_, rfl, by simp⟩
      intro y hy
      refine vif rfl ⟨fun ht => ?_, fun hf => ?_⟩
      · have hRf : R = false := by
          rw [ht] at hy
          cases R with
          | false => rfl
          | true =>
            have hval := hval.symm
            simp only [Bool.true_and, Bool.and_eq_true] at hval
            have := hz.1 hval.1 m hlt
            rw [this] at hy; cases hy
        subst hRf
        refine vwp_seq_k fun Ni hNi => vreg tt_ok hF rfl ?_; simp only [go_sem, Int.reduceEq, Int.reduceNe, Int.reduceLT, Int.reduceLE, Nat.reduceEqDiff, Nat.reduceAdd, Nat.reduceMul, Nat.reduceLT, Nat.reduceLeDiff, Nat.reduceSub, reduceCtorEq, reduceIte, Int.reduceToNat, beq_self_eq_true, Bool.and_self, List.take_length, decide_true, Bool.not_true, Bool.not_false]
        refine hNi _ (VWp.keep [2] [] ?_); simp only [go_sem, Int.reduceEq, Int.reduceNe, Int.reduceLT, Int.reduceLE, Nat.reduceEqDiff, Nat.reduceAdd, Nat.reduceMul, Nat.reduceLT, Nat.reduceLeDiff, Nat.reduceSub, reduceCtorEq, reduceIte, Int.reduceToNat, beq_self_eq_true, Bool.and_self, List.take_length, decide_true, Bool.not_true, Bool.not_false]
        refine vwp_ret ?_
        simp only [go_sem, Int.reduceEq, Int.reduceNe, Int.reduceLT, Int.reduceLE, Nat.reduceEqDiff, Nat.reduceAdd, Nat.reduceMul, Nat.reduceLT, Nat.reduceLeDiff, Nat.reduceSub, reduceCtorEq, reduceIte, Int.reduceToNat, beq_self_eq_true, Bool.and_self, List.take_length, decide_true, Bool.not_true, Bool.not_false]
        exact LeV.refl _
      · refine vwp_skip (hNg _ ?_)
        refine vreg tt_ok hF rfl ?_; simp only [go_sem, Int.reduceEq, Int.reduceNe, Int.reduceLT, Int.reduceLE, Nat.reduceEqDiff, Nat.reduceAdd, Nat.reduceMul, Nat.reduceLT, Nat.reduceLeDiff, Nat.reduceSub, reduceCtorEq, reduceIte, Int.reduceToNat, beq_self_eq_true, Bool.and_self, List.take_length, decide_true, Bool.not_true, Bool.not_false]
        rw [wrap_i64 (by omega) (by omega)]
        refine ⟨m + 1, ⟨by omega, fun j hj => ?_⟩, by omega, by simp⟩
        rcases Nat.lt_succ_iff_lt_or_eq.1 hj with h | h
        · exact m2 j h
        · subst h; rw [hf] at hy; simpa using hy.symm
    · have hm : m = s.length := by have := of_decide_eq_false hf; omega
      subst hm
      rw [hz.2 m2] at hval
      simp only [Bool.true_and] at hval
      subst hval
      refine vwp_exit ?_
      simp only [go_sem, Int.reduceEq, Int.reduceNe, Int.reduceLT, Int.reduceLE, Nat.reduceEqDiff, Nat.reduceAdd, Nat.reduceMul, Nat.reduceLT, Nat.reduceLeDiff, Nat.reduceSub, reduceCtorEq, reduceIte, Int.reduceToNat, beq_self_eq_true, Bool.and_self, List.take_length, decide_true, Bool.not_true, Bool.not_false]
      refine hNc _ (VWp.keepR [0,4] [] tt_ok hF rfl fun Nj hNj => ?_); simp only [go_sem, Int.reduceEq, Int.reduceNe, Int.reduceLT, Int.reduceLE, Nat.reduceEqDiff, Nat.reduceAdd, Nat.reduceMul, Nat.reduceLT, Nat.reduceLeDiff, Nat.reduceSub, reduceCtorEq, reduceIte, Int.reduceToNat, beq_self_eq_true, Bool.and_self, List.take_length, decide_true, Bool.not_true, Bool.not_false]
      refine .inl ⟨_, h2, ?_⟩; try simp only [go_sem, Int.reduceEq, Int.reduceNe, Int.reduceLT, Int.reduceLE, Nat.reduceEqDiff, Nat.reduceAdd, Nat.reduceMul, Nat.reduceLT, Nat.reduceLeDiff, Nat.reduceSub, reduceCtorEq, reduceIte, Int.reduceToNat, beq_self_eq_true, Bool.and_self, List.take_length, decide_true, Bool.not_true, Bool.not_false]
      refine hNj _ (VWp.keep [2] [] ?_); simp only [go_sem, Int.reduceEq, Int.reduceNe, Int.reduceLT, Int.reduceLE, Nat.reduceEqDiff, Nat.reduceAdd, Nat.reduceMul, Nat.reduceLT, Nat.reduceLeDiff, Nat.reduceSub, reduceCtorEq, reduceIte, Int.reduceToNat, beq_self_eq_true, Bool.and_self, List.take_length, decide_true, Bool.not_true, Bool.not_false]
      refine vwp_ret ?_
      simp only [go_sem, Int.reduceEq, Int.reduceNe, Int.reduceLT, Int.reduceLE, Nat.reduceEqDiff, Nat.reduceAdd, Nat.reduceMul, Nat.reduceLT, Nat.reduceLeDiff, Nat.reduceSub, reduceCtorEq, reduceIte, Int.reduceToNat, beq_self_eq_true, Bool.and_self, List.take_length, decide_true, Bool.not_true, Bool.not_false]
      exact LeV.refl _
set_option maxHeartbeats 8000000 in
set_option maxRecDepth 4000 in
theorem rsplit_spec (s : Jb) (hs : s.length ≤ 100000000) : Spec Tryd.prog 41 [.str s, .int .i64 0] (.tup [strsV ((splitJ s).getD []), .bool (splitJ s).isSome]) := by
  have h1 := places_spec s (by omega)
  obtain ⟨l, ok, hv, hok, hno, hln⟩ := plc_cases s
  rw [hv] at h1
  obtain ⟨R, hR⟩ : ∃ R, splitJ s = R := ⟨_, rfl⟩
  rw [hR] at hno ⊢
  cases ok
  · obtain ⟨_, hRn⟩ := hno rfl
    subst hRn
    refine spec_of tt_ok Tryd.func41 rfl (by decide) Tryd.ntmps41 (congrArg Array.toList Tryd.results41) (by simp) (by decide) rfl rfl (fun F hF => ?_)
    refine vwp_seq_k fun Na hNa => vreg tt_ok hF rfl ?_; simp only [go_sem, Int.reduceEq, Int.reduceNe, Int.reduceLT, Int.reduceLE, Nat.reduceEqDiff, Nat.reduceAdd, Nat.reduceMul, Nat.reduceLT, Nat.reduceLeDiff, Nat.reduceSub, reduceCtorEq, reduceIte, Int.reduceToNat, beq_self_eq_true, Bool.and_self, List.take_length, decide_true, Bool.not_true, Bool.not_false]
    refine hNa _ (VWp.keepR [0,1] [] tt_ok hF rfl fun Nb hNb => ?_); simp only [go_sem, Int.reduceEq, Int.reduceNe, Int.reduceLT, Int.reduceLE, Nat.reduceEqDiff, Nat.reduceAdd, Nat.reduceMul, Nat.reduceLT, Nat.reduceLeDiff, Nat.reduceSub, reduceCtorEq, reduceIte, Int.reduceToNat, beq_self_eq_true, Bool.and_self, List.take_length, decide_true, Bool.not_true, Bool.not_false]
    refine .inl ⟨_, h1, ?_⟩; try simp only [go_sem, Int.reduceEq, Int.reduceNe, Int.reduceLT, Int.reduceLE, Nat.reduceEqDiff, Nat.reduceAdd, Nat.reduceMul, Nat.reduceLT, Nat.reduceLeDiff, Nat.reduceSub, reduceCtorEq, reduceIte, Int.reduceToNat, beq_self_eq_true, Bool.and_self, List.take_length, decide_true, Bool.not_true, Bool.not_false]
    refine hNb _ (VWp.keep [0,1,6,7] [] ?_); simp only [go_sem, Int.reduceEq, Int.reduceNe, Int.reduceLT, Int.reduceLE, Nat.reduceEqDiff, Nat.reduceAdd, Nat.reduceMul, Nat.reduceLT, Nat.reduceLeDiff, Nat.reduceSub, reduceCtorEq, reduceIte, Int.reduceToNat, beq_self_eq_true, Bool.and_self, List.take_length, decide_true, Bool.not_true, Bool.not_false]
    refine vwp_seq_k fun Nc hNc => ?_
    refine vwp_seq_k fun Nd hNd => vreg tt_ok hF rfl ?_; simp only [go_sem, Int.reduceEq, Int.reduceNe, Int.reduceLT, Int.reduceLE, Nat.reduceEqDiff, Nat.reduceAdd, Nat.reduceMul, Nat.reduceLT, Nat.reduceLeDiff, Nat.reduceSub, reduceCtorEq, reduceIte, Int.reduceToNat, beq_self_eq_true, Bool.and_self, List.take_length, decide_true, Bool.not_true, Bool.not_false]
    refine hNd _ (VWp.keep [0,1,6,17] [] ?_); simp only [go_sem, Int.reduceEq, Int.reduceNe, Int.reduceLT, Int.reduceLE, Nat.reduceEqDiff, Nat.reduceAdd, Nat.reduceMul, Nat.reduceLT, Nat.reduceLeDiff, Nat.reduceSub, reduceCtorEq, reduceIte, Int.reduceToNat, beq_self_eq_true, Bool.and_self, List.take_length, decide_true, Bool.not_true, Bool.not_false]
    refine vif rfl ⟨fun ht => ?_, fun hf => (by cases hf)⟩
    refine vwp_seq_k fun Ne hNe => vreg tt_ok hF rfl ?_; simp only [go_sem, Int.reduceEq, Int.reduceNe, Int.reduceLT, Int.reduceLE, Nat.reduceEqDiff, Nat.reduceAdd, Nat.reduceMul, Nat.reduceLT, Nat.reduceLeDiff, Nat.reduceSub, reduceCtorEq, reduceIte, Int.reduceToNat, beq_self_eq_true, Bool.and_self, List.take_length, decide_true, Bool.not_true, Bool.not_false]
    refine hNe _ (VWp.keep [4,5] [] ?_); simp only [go_sem, Int.reduceEq, Int.reduceNe, Int.reduceLT, Int.reduceLE, Nat.reduceEqDiff, Nat.reduceAdd, Nat.reduceMul, Nat.reduceLT, Nat.reduceLeDiff, Nat.reduceSub, reduceCtorEq, reduceIte, Int.reduceToNat, beq_self_eq_true, Bool.and_self, List.take_length, decide_true, Bool.not_true, Bool.not_false]
    refine vwp_ret ?_
    simp only [go_sem, Int.reduceEq, Int.reduceNe, Int.reduceLT, Int.reduceLE, Nat.reduceEqDiff, Nat.reduceAdd, Nat.reduceMul, Nat.reduceLT, Nat.reduceLeDiff, Nat.reduceSub, reduceCtorEq, reduceIte, Int.reduceToNat, beq_self_eq_true, Bool.and_self, List.take_length, decide_true, Bool.not_true, Bool.not_false]
    exact LeV.tup ⟨LeV.nil 1, LeV.refl _, trivial⟩
  · have hpl := hok rfl
    obtain ⟨hlen, _, _⟩ := pl_some hpl
    have hspl := split_of hpl
    rw [hR, if_pos rfl] at hspl
    obtain ⟨C, hC⟩ : ∃ C, cutJ s 0 (comO s l 0) = C := ⟨_, rfl⟩
    rw [hC] at hspl
    subst hspl
    refine spec_of tt_ok Tryd.func41 rfl (by decide) Tryd.ntmps41 (congrArg Array.toList Tryd.results41) (by simp) (by decide) rfl rfl (fun F hF => ?_)
    refine vwp_seq_k fun Na hNa => vreg tt_ok hF rfl ?_; simp only [go_sem, Int.reduceEq, Int.reduceNe, Int.reduceLT, Int.reduceLE, Nat.reduceEqDiff, Nat.reduceAdd, Nat.reduceMul, Nat.reduceLT, Nat.reduceLeDiff, Nat.reduceSub, reduceCtorEq, reduceIte, Int.reduceToNat, beq_self_eq_true, Bool.and_self, List.take_length, decide_true, Bool.not_true, Bool.not_false]
    refine hNa _ (VWp.keepR [0,1] [] tt_ok hF rfl fun Nb hNb => ?_); simp only [go_sem, Int.reduceEq, Int.reduceNe, Int.reduceLT, Int.reduceLE, Nat.reduceEqDiff, Nat.reduceAdd, Nat.reduceMul, Nat.reduceLT, Nat.reduceLeDiff, Nat.reduceSub, reduceCtorEq, reduceIte, Int.reduceToNat, beq_self_eq_true, Bool.and_self, List.take_length, decide_true, Bool.not_true, Bool.not_false]
    refine .inl ⟨_, h1, ?_⟩; try simp only [go_sem, Int.reduceEq, Int.reduceNe, Int.reduceLT, Int.reduceLE, Nat.reduceEqDiff, Nat.reduceAdd, Nat.reduceMul, Nat.reduceLT, Nat.reduceLeDiff, Nat.reduceSub, reduceCtorEq, reduceIte, Int.reduceToNat, beq_self_eq_true, Bool.and_self, List.take_length, decide_true, Bool.not_true, Bool.not_false]
    refine hNb _ (VWp.keep [0,1,6,7] [] ?_); simp only [go_sem, Int.reduceEq, Int.reduceNe, Int.reduceLT, Int.reduceLE, Nat.reduceEqDiff, Nat.reduceAdd, Nat.reduceMul, Nat.reduceLT, Nat.reduceLeDiff, Nat.reduceSub, reduceCtorEq, reduceIte, Int.reduceToNat, beq_self_eq_true, Bool.and_self, List.take_length, decide_true, Bool.not_true, Bool.not_false]
    refine vwp_seq_k fun Nc hNc => ?_
    refine vwp_seq_k fun Nd hNd => vreg tt_ok hF rfl ?_; simp only [go_sem, Int.reduceEq, Int.reduceNe, Int.reduceLT, Int.reduceLE, Nat.reduceEqDiff, Nat.reduceAdd, Nat.reduceMul, Nat.reduceLT, Nat.reduceLeDiff, Nat.reduceSub, reduceCtorEq, reduceIte, Int.reduceToNat, beq_self_eq_true, Bool.and_self, List.take_length, decide_true, Bool.not_true, Bool.not_false]
    refine hNd _ (VWp.keep [0,1,6,17] [] ?_); simp only [go_sem, Int.reduceEq, Int.reduceNe, Int.reduceLT, Int.reduceLE, Nat.reduceEqDiff, Nat.reduceAdd, Nat.reduceMul, Nat.reduceLT, Nat.reduceLeDiff, Nat.reduceSub, reduceCtorEq, reduceIte, Int.reduceToNat, beq_self_eq_true, Bool.and_self, List.take_length, decide_true, Bool.not_true, Bool.not_false]
    refine vif rfl ⟨fun ht => (by cases ht), fun hf => ?_⟩
    refine vwp_skip (hNc _ ?_)
    refine vwp_seq_k fun Nf hNf => vreg tt_ok hF rfl ?_; simp only [go_sem, Int.reduceEq, Int.reduceNe, Int.reduceLT, Int.reduceLE, Nat.reduceEqDiff, Nat.reduceAdd, Nat.reduceMul, Nat.reduceLT, Nat.reduceLeDiff, Nat.reduceSub, reduceCtorEq, reduceIte, Int.reduceToNat, beq_self_eq_true, Bool.and_self, List.take_length, decide_true, Bool.not_true, Bool.not_false]
    refine hNf _ (VWp.keepR [0,1,6,8] [] tt_ok hF rfl fun Ng hNg => ?_); simp only [go_sem, Int.reduceEq, Int.reduceNe, Int.reduceLT, Int.reduceLE, Nat.reduceEqDiff, Nat.reduceAdd, Nat.reduceMul, Nat.reduceLT, Nat.reduceLeDiff, Nat.reduceSub, reduceCtorEq, reduceIte, Int.reduceToNat, beq_self_eq_true, Bool.and_self, List.take_length, decide_true, Bool.not_true, Bool.not_false]
    refine hNg _ (VWp.keep [0,1,6,8,9] [] ?_); simp only [go_sem, Int.reduceEq, Int.reduceNe, Int.reduceLT, Int.reduceLE, Nat.reduceEqDiff, Nat.reduceAdd, Nat.reduceMul, Nat.reduceLT, Nat.reduceLeDiff, Nat.reduceSub, reduceCtorEq, reduceIte, Int.reduceToNat, beq_self_eq_true, Bool.and_self, List.take_length, decide_true, Bool.not_true, Bool.not_false]
    refine vwp_seq_k fun Nh hNh => ?_
    refine vwp_seq_k fun Ni hNi => vreg tt_ok hF rfl ?_; simp only [go_sem, Int.reduceEq, Int.reduceNe, Int.reduceLT, Int.reduceLE, Nat.reduceEqDiff, Nat.reduceAdd, Nat.reduceMul, Nat.reduceLT, Nat.reduceLeDiff, Nat.reduceSub, reduceCtorEq, reduceIte, Int.reduceToNat, beq_self_eq_true, Bool.and_self, List.take_length, decide_true, Bool.not_true, Bool.not_false]
    refine hNi _ (VWp.keep [0,1,6,8,9,10] [] ?_); simp only [go_sem, Int.reduceEq, Int.reduceNe, Int.reduceLT, Int.reduceLE, Nat.reduceEqDiff, Nat.reduceAdd, Nat.reduceMul, Nat.reduceLT, Nat.reduceLeDiff, Nat.reduceSub, reduceCtorEq, reduceIte, Int.reduceToNat, beq_self_eq_true, Bool.and_self, List.take_length, decide_true, Bool.not_true, Bool.not_false]
    refine VWp.adopt 500000 1 9 (x := 8) rfl rfl (by decide) ?_ (closed_of (by simp only [go_sem, Int.reduceEq, Int.reduceNe, Int.reduceLT, Int.reduceLE, Nat.reduceEqDiff, Nat.reduceAdd, Nat.reduceMul, Nat.reduceLT, Nat.reduceLeDiff, Nat.reduceSub, reduceCtorEq, reduceIte, Int.reduceToNat, beq_self_eq_true, Bool.and_self, List.take_length, decide_true, Bool.not_true, Bool.not_false]) (by simp only [go_sem, Int.reduceEq, Int.reduceNe, Int.reduceLT, Int.reduceLE, Nat.reduceEqDiff, Nat.reduceAdd, Nat.reduceMul, Nat.reduceLT, Nat.reduceLeDiff, Nat.reduceSub, reduceCtorEq, reduceIte, Int.reduceToNat, beq_self_eq_true, Bool.and_self, List.take_length, decide_true, Bool.not_true, Bool.not_false]))
    refine VWp.keep [0,1,6,8,9,10] [500000] ?_; simp only [go_sem, Int.reduceEq, Int.reduceNe, Int.reduceLT, Int.reduceLE, Nat.reduceEqDiff, Nat.reduceAdd, Nat.reduceMul, Nat.reduceLT, Nat.reduceLeDiff, Nat.reduceSub, reduceCtorEq, reduceIte, Int.reduceToNat, beq_self_eq_true, Bool.and_self, List.take_length, decide_true, Bool.not_true, Bool.not_false]
    refine vwp_block (vloop (fun z : Nat × Nat × List Jb => [(0, .str s), (1, .int .i64 0), (6, intsV l), (8, .own 500000 z.2.2.length), (9, .int .i64 (z.2.1 : Int)), (10, .int .i64 (z.1 : Int))]) (fun z => [(500000, .arr 1 9 (z.2.2.map fun w => [V.str w]))])
      (fun z => z.1 ≤ s.length ∧ z.2.1 ≤ z.1 ∧ z.2.2.length ≤ z.1 ∧ z.2.2 ++ cutJ s z.2.1 (comO (s.drop z.1) (l.drop z.1) z.1) = C) (fun z => s.length - z.1) (0, 0, []) ⟨Nat.zero_le _, Nat.le_refl _, Nat.le_refl _, by simpa using hC⟩ (by simp only [go_sem, Int.reduceEq, Int.reduceNe, Int.reduceLT, Int.reduceLE, Nat.reduceEqDiff, Nat.reduceAdd, Nat.reduceMul, Nat.reduceLT, Nat.reduceLeDiff, Nat.reduceSub, reduceCtorEq, reduceIte, Int.reduceToNat, beq_self_eq_true, Bool.and_self, List.take_length, decide_true, Bool.not_true, Bool.not_false]) ?_)
    rintro ⟨m, fr, out⟩ ⟨m1, m2, m3, m4⟩
    have m1 : m ≤ s.length := m1
    have m2 : fr ≤ m := m2
    have m3 : out.length ≤ m := m3
    have m4 : out ++ cutJ s fr (comO (s.drop m) (l.drop m) m) = C := m4
    have e0 : decide ((m : Int) < (l.length : Int)) = decide (m < s.length) := by apply decide_eq_decide.2; omega
    try dsimp only
    refine vwp_seq_k fun Nj hNj => ?_
    refine vwp_seq_k fun Nk hNk => vreg tt_ok hF rfl ?_; simp only [go_sem, Int.reduceEq, Int.reduceNe, Int.reduceLT, Int.reduceLE, Nat.reduceEqDiff, Nat.reduceAdd, Nat.reduceMul, Nat.reduceLT, Nat.reduceLeDiff, Nat.reduceSub, reduceCtorEq, reduceIte, Int.reduceToNat, beq_self_eq_true, Bool.and_self, List.take_length, decide_true, Bool.not_true, Bool.not_false, List.length_map, e0]
    refine hNk _ (VWp.keep [0,1,6,8,9,10,21] [500000] ?_); simp only [go_sem, Int.reduceEq, Int.reduceNe, Int.reduceLT, Int.reduceLE, Nat.reduceEqDiff, Nat.reduceAdd, Nat.reduceMul, Nat.reduceLT, Nat.reduceLeDiff, Nat.reduceSub, reduceCtorEq, reduceIte, Int.reduceToNat, beq_self_eq_true, Bool.and_self, List.take_length, decide_true, Bool.not_true, Bool.not_false]
    refine vif rfl ⟨fun ht => ?_, fun hf => ?_⟩
    · have hlt : m < s.length := of_decide_eq_true ht
      have hpm : (0 : Int) ≤ (m : Int) ∧ (m : Int) < (s.length : Int) := ⟨by omega, by omega⟩
      have hpl2 : (0 : Int) ≤ (m : Int) ∧ (m : Int) < (l.length : Int) := ⟨by omega, by omega⟩
      have hrow := int_row l m (by omega)
      rw [drop_at s m hlt, drop_consI l m (by omega), comO_cons] at m4
      refine vwp_skip (hNj _ ?_)
      refine vwp_seq_k fun Nl hNl => ?_
      refine vwp_block ?_
      refine vmeet (fun y : Bool => [(0, .str s), (1, .int .i64 0), (6, intsV l), (8, .own 500000 out.length), (9, .int .i64 (fr : Int)), (10, .int .i64 (m : Int)), (35, .bool y)]) (fun _ => [(500000, .arr 1 9 (out.map fun w => [V.str w]))]) (fun y => y = (s.getD m 0 == 44 && l.getD m 0 == 0)) ?_ ?_
      · have e2 : decide ((((s.getD m 0).toNat : Nat) : Int) = (44 : Int)) = (s.getD m 0 == 44) := u8eq 44 _
        have e3 : decide (l.getD m 0 = 0) = (l.getD m 0 == 0) := inteq _ _
        generalize (s.getD m 0 == 44) = b2 at e2 ⊢
        generalize (l.getD m 0 == 0) = b3 at e3 ⊢
        cases b2
        all_goals
          refine vreg tt_ok hF rfl ?_; simp only [go_sem, Int.reduceEq, Int.reduceNe, Int.reduceLT, Int.reduceLE, Nat.reduceEqDiff, Nat.reduceAdd, Nat.reduceMul, Nat.reduceLT, Nat.reduceLeDiff, Nat.reduceSub, reduceCtorEq, reduceIte, Int.reduceToNat, beq_self_eq_true, Bool.and_self, List.take_length, decide_true, Bool.not_true, Bool.not_false, hpm, hpl2, hrow, List.length_map, e2, e3]
          exact ⟨_, rfl, by simp⟩
      intro y hy
      rw [← hy] at m4
      refine vif rfl ⟨fun ht => ?_, fun hf => ?_⟩
      · rw [ht, if_pos rfl, cutJ] at m4
        refine vwp_seq_k fun Nn hNn => vreg tt_ok hF rfl ?_; simp only [go_sem, Int.reduceEq, Int.reduceNe, Int.reduceLT, Int.reduceLE, Nat.reduceEqDiff, Nat.reduceAdd, Nat.reduceMul, Nat.reduceLT, Nat.reduceLeDiff, Nat.reduceSub, reduceCtorEq, reduceIte, Int.reduceToNat, beq_self_eq_true, Bool.and_self, List.take_length, decide_true, Bool.not_true, Bool.not_false]
        refine ⟨⟨by omega, by omega, by omega⟩, by omega, ?_⟩
        refine hNn _ (VWp.keep [0,1,6,8,10] [500000] ?_); simp only [go_sem, Int.reduceEq, Int.reduceNe, Int.reduceLT, Int.reduceLE, Nat.reduceEqDiff, Nat.reduceAdd, Nat.reduceMul, Nat.reduceLT, Nat.reduceLeDiff, Nat.reduceSub, reduceCtorEq, reduceIte, Int.reduceToNat, beq_self_eq_true, Bool.and_self, List.take_length, decide_true, Bool.not_true, Bool.not_false]
        refine vreg tt_ok hF rfl ?_; simp only [go_sem, Int.reduceEq, Int.reduceNe, Int.reduceLT, Int.reduceLE, Nat.reduceEqDiff, Nat.reduceAdd, Nat.reduceMul, Nat.reduceLT, Nat.reduceLeDiff, Nat.reduceSub, reduceCtorEq, reduceIte, Int.reduceToNat, beq_self_eq_true, Bool.and_self, List.take_length, decide_true, Bool.not_true, Bool.not_false]
        rw [wrap_i64 (by omega) (by omega)]
        refine hNl _ (VWp.keep [0,1,6,8,9,10] [500000] ?_); simp only [go_sem, Int.reduceEq, Int.reduceNe, Int.reduceLT, Int.reduceLE, Nat.reduceEqDiff, Nat.reduceAdd, Nat.reduceMul, Nat.reduceLT, Nat.reduceLeDiff, Nat.reduceSub, reduceCtorEq, reduceIte, Int.reduceToNat, beq_self_eq_true, Bool.and_self, List.take_length, decide_true, Bool.not_true, Bool.not_false]
        refine vreg tt_ok hF rfl ?_; simp only [go_sem, Int.reduceEq, Int.reduceNe, Int.reduceLT, Int.reduceLE, Nat.reduceEqDiff, Nat.reduceAdd, Nat.reduceMul, Nat.reduceLT, Nat.reduceLeDiff, Nat.reduceSub, reduceCtorEq, reduceIte, Int.reduceToNat, beq_self_eq_true, Bool.and_self, List.take_length, decide_true, Bool.not_true, Bool.not_false]
        rw [wrap_i64 (by omega) (by omega)]
        exact ⟨(m + 1, m + 1, out ++ [(s.take m).drop fr]), ⟨by simp only; omega, Nat.le_refl _, by simp; omega, by simpa using m4⟩, by simp only; omega, by simp [intsV]⟩
      · rw [hf, if_neg (by decide)] at m4
        refine vwp_skip (hNl _ ?_)
        refine vreg tt_ok hF rfl ?_; simp only [go_sem, Int.reduceEq, Int.reduceNe, Int.reduceLT, Int.reduceLE, Nat.reduceEqDiff, Nat.reduceAdd, Nat.reduceMul, Nat.reduceLT, Nat.reduceLeDiff, Nat.reduceSub, reduceCtorEq, reduceIte, Int.reduceToNat, beq_self_eq_true, Bool.and_self, List.take_length, decide_true, Bool.not_true, Bool.not_false]
        rw [wrap_i64 (by omega) (by omega)]
        exact ⟨(m + 1, fr, out), ⟨by simp only; omega, by simp only; omega, by simp only; omega, m4⟩, by simp only; omega, by simp [intsV]⟩
    · have hm : m = s.length := by have := of_decide_eq_false hf; omega
      subst hm
      rw [List.drop_length] at m4
      have m4 : out ++ [s.drop fr] = C := m4
      subst m4
      refine vwp_exit ?_
      simp only [go_sem, Int.reduceEq, Int.reduceNe, Int.reduceLT, Int.reduceLE, Nat.reduceEqDiff, Nat.reduceAdd, Nat.reduceMul, Nat.reduceLT, Nat.reduceLeDiff, Nat.reduceSub, reduceCtorEq, reduceIte, Int.reduceToNat, beq_self_eq_true, Bool.and_self, List.take_length, decide_true, Bool.not_true, Bool.not_false]
      refine hNh _ (VWp.keepR [0,8,9] [500000] tt_ok hF rfl fun No hNo => ?_); simp only [go_sem, Int.reduceEq, Int.reduceNe, Int.reduceLT, Int.reduceLE, Nat.reduceEqDiff, Nat.reduceAdd, Nat.reduceMul, Nat.reduceLT, Nat.reduceLeDiff, Nat.reduceSub, reduceCtorEq, reduceIte, Int.reduceToNat, beq_self_eq_true, Bool.and_self, List.take_length, decide_true, Bool.not_true, Bool.not_false]
      refine ⟨⟨by omega, by omega⟩, by omega, ?_⟩
      refine hNo _ (VWp.keep [4,5] [500000] ?_); simp only [go_sem, Int.reduceEq, Int.reduceNe, Int.reduceLT, Int.reduceLE, Nat.reduceEqDiff, Nat.reduceAdd, Nat.reduceMul, Nat.reduceLT, Nat.reduceLeDiff, Nat.reduceSub, reduceCtorEq, reduceIte, Int.reduceToNat, beq_self_eq_true, Bool.and_self, List.take_length, decide_true, Bool.not_true, Bool.not_false]
      refine vwp_ret ?_
      simp only [go_sem, Int.reduceEq, Int.reduceNe, Int.reduceLT, Int.reduceLE, Nat.reduceEqDiff, Nat.reduceAdd, Nat.reduceMul, Nat.reduceLT, Nat.reduceLeDiff, Nat.reduceSub, reduceCtorEq, reduceIte, Int.reduceToNat, beq_self_eq_true, Bool.and_self, List.take_length, decide_true, Bool.not_true, Bool.not_false]
      exact LeV.of_eq (by simp [strsV])
set_option maxHeartbeats 8000000 in
set_option maxRecDepth 4000 in
theorem rParts_spec (s : Jb) (hs : s.length ≤ 100000000) : Spec Tryd.prog 17 [.str s] (.tup [strsV ((partsJ s).getD []), .bool (partsJ s).isSome]) := by
  have h1 := rValue_spec s (by omega)
  have h2 := rsplit_spec ((s.take (s.length - 1)).drop 1) (by simp; omega)
  have h3 := places_spec s (by omega)
  have hp : partsJ s = if decide (2 ≤ s.length) && s.getD 0 0 == 40 && s.getD (s.length - 1) 0 == 41 && valueJ s then splitJ ((s.take (s.length - 1)).drop 1) else none := by
    rw [← headD_getD, ← lastD_getD]; rfl
  have e1 : decide ((s.length : Int) < 2) = !decide (2 ≤ s.length) := by
    by_cases h : 2 ≤ s.length
    · rw [decide_eq_false (by omega), decide_eq_true h]; rfl
    · rw [decide_eq_true (by omega), decide_eq_false h]; rfl
  rw [hp]
  by_cases hl : 2 ≤ s.length
  · rw [decide_eq_true hl] at e1 ⊢
    rw [Bool.true_and]
    have hw : IntKind.i64.wrap ((s.length : Int) - 1) = ((s.length - 1 : Nat) : Int) := by rw [wrap_i64 (by omega) (by omega)]; omega
    have e2 : decide ((((s.getD 0 0).toNat : Nat) : Int) = (40 : Int)) = (s.getD 0 0 == 40) := u8eq 40 _
    have e3 : decide ((((s.getD (s.length - 1) 0).toNat : Nat) : Int) = (41 : Int)) = (s.getD (s.length - 1) 0 == 41) := u8eq 41 _
    have hp0 : (0 : Int) < (s.length : Int) := by omega
    have hp1 : ((0 : Int) ≤ ((s.length - 1 : Nat) : Int) ∧ ((s.length - 1 : Nat) : Int) < (s.length : Int)) := by omega
    have hno := fun l ok h => parts_no (s := s) (l := l) (ok := ok) h hl
    have hv0 := value_no (s := s)
    have hv1 : valueJ s = true → ∃ l, plJ s 0 false = some (l, true) ∧ l.length = s.length := fun h => by
      obtain ⟨l, hl⟩ := pl_bal (val_parts h).2.1
      exact ⟨l, hl, (pl_some hl).1⟩
    have q2 : (s.getD 0 0 == 40) = true → s.getD 0 0 = 40 := fun h => by simpa using h
    have q3 : (s.getD (s.length - 1) 0 == 41) = true → s.getD (s.length - 1) 0 = 41 := fun h => by simpa using h
    generalize (s.getD 0 0 == 40) = b2 at e2 q2
    generalize (s.getD (s.length - 1) 0 == 41) = b3 at e3 q3
    generalize valueJ s = b4 at h1 hv1
    obtain ⟨R, hR⟩ : ∃ R, (if (b2 && b3 && b4) = true then splitJ ((s.take (s.length - 1)).drop 1) else none) = R := ⟨_, rfl⟩
    rw [hR]
    refine spec_of tt_ok Tryd.func17 rfl (by decide) Tryd.ntmps17 (congrArg Array.toList Tryd.results17) (by simp) (by decide) rfl rfl (fun F hF => ?_)
    refine vwp_seq_k fun Na hNa => vreg tt_ok hF rfl ?_; simp only [go_sem, Int.reduceEq, Int.reduceNe, Int.reduceLT, Int.reduceLE, Nat.reduceEqDiff, Nat.reduceAdd, Nat.reduceMul, Nat.reduceLT, Nat.reduceLeDiff, Nat.reduceSub, reduceCtorEq, reduceIte, Int.reduceToNat, beq_self_eq_true, Bool.and_self, List.take_length, decide_true, Bool.not_true, Bool.not_false]
    refine hNa _ (VWp.keep [0] [] ?_); simp only [go_sem, Int.reduceEq, Int.reduceNe, Int.reduceLT, Int.reduceLE, Nat.reduceEqDiff, Nat.reduceAdd, Nat.reduceMul, Nat.reduceLT, Nat.reduceLeDiff, Nat.reduceSub, reduceCtorEq, reduceIte, Int.reduceToNat, beq_self_eq_true, Bool.and_self, List.take_length, decide_true, Bool.not_true, Bool.not_false]
    refine vwp_seq_k fun Nb hNb => ?_
    refine vmeet (fun z : Bool => [(0, .str s), (27, .bool z)]) (fun _ => []) (fun z => z = !(b2 && b3 && b4)) ?_ ?_
    · cases b2 <;> cases b3
      all_goals
        refine vreg tt_ok hF rfl ?_; simp only [go_sem, Int.reduceEq, Int.reduceNe, Int.reduceLT, Int.reduceLE, Nat.reduceEqDiff, Nat.reduceAdd, Nat.reduceMul, Nat.reduceLT, Nat.reduceLeDiff, Nat.reduceSub, reduceCtorEq, reduceIte, Int.reduceToNat, beq_self_eq_true, Bool.and_self, List.take_length, decide_true, Bool.not_true, Bool.not_false, e1, e2, e3, hp0, hp1, hw]
        try (refine .inl ⟨_, h1, ?_⟩; try simp only [go_sem, Int.reduceEq, Int.reduceNe, Int.reduceLT, Int.reduceLE, Nat.reduceEqDiff, Nat.reduceAdd, Nat.reduceMul, Nat.reduceLT, Nat.reduceLeDiff, Nat.reduceSub, reduceCtorEq, reduceIte, Int.reduceToNat, beq_self_eq_true, Bool.and_self, List.take_length, decide_true, Bool.not_true, Bool.not_false])
        exact ⟨_, rfl, by simp⟩
    intro z hz
    refine vif rfl ⟨fun ht => ?_, fun hf => ?_⟩
    · have hcond : (b2 && b3 && b4) = false := by rw [ht] at hz; revert hz; cases b2 <;> cases b3 <;> cases b4 <;> simp
      rw [hcond] at hR
      simp only [Bool.false_eq_true, if_false] at hR
      subst hR
      refine vwp_seq_k fun Nd hNd => vreg tt_ok hF rfl ?_; simp only [go_sem, Int.reduceEq, Int.reduceNe, Int.reduceLT, Int.reduceLE, Nat.reduceEqDiff, Nat.reduceAdd, Nat.reduceMul, Nat.reduceLT, Nat.reduceLeDiff, Nat.reduceSub, reduceCtorEq, reduceIte, Int.reduceToNat, beq_self_eq_true, Bool.and_self, List.take_length, decide_true, Bool.not_true, Bool.not_false]
      refine hNd _ (VWp.keep [2,3] [] ?_); simp only [go_sem, Int.reduceEq, Int.reduceNe, Int.reduceLT, Int.reduceLE, Nat.reduceEqDiff, Nat.reduceAdd, Nat.reduceMul, Nat.reduceLT, Nat.reduceLeDiff, Nat.reduceSub, reduceCtorEq, reduceIte, Int.reduceToNat, beq_self_eq_true, Bool.and_self, List.take_length, decide_true, Bool.not_true, Bool.not_false]
      refine vwp_ret ?_
      simp only [go_sem, Int.reduceEq, Int.reduceNe, Int.reduceLT, Int.reduceLE, Nat.reduceEqDiff, Nat.reduceAdd, Nat.reduceMul, Nat.reduceLT, Nat.reduceLeDiff, Nat.reduceSub, reduceCtorEq, reduceIte, Int.reduceToNat, beq_self_eq_true, Bool.and_self, List.take_length, decide_true, Bool.not_true, Bool.not_false]
      exact LeV.tup ⟨LeV.nil 1, LeV.refl _, trivial⟩
    · have hcond : (b2 && b3 && b4) = true := by rw [hf] at hz; revert hz; cases b2 <;> cases b3 <;> cases b4 <;> simp
      rw [hcond, if_pos rfl] at hR
      simp only [Bool.and_eq_true] at hcond
      obtain ⟨⟨t2, t3⟩, t4⟩ := hcond
      obtain ⟨l, hl1, hl2⟩ := hv1 t4
      have hno := hno l true hl1 (q2 t2) (q3 t3)
      rw [hl1] at h3
      have h3 : Spec Tryd.prog 40 [.str s] (.tup [intsV l, .bool true]) := h3
      have hwl : IntKind.i64.wrap ((l.length : Int) - 1) = ((s.length - 1 : Nat) : Int) := by rw [wrap_i64 (by omega) (by omega)]; omega
      refine vwp_skip (hNb _ ?_)
      refine vwp_seq_k fun Ne hNe => vreg tt_ok hF rfl ?_; simp only [go_sem, Int.reduceEq, Int.reduceNe, Int.reduceLT, Int.reduceLE, Nat.reduceEqDiff, Nat.reduceAdd, Nat.reduceMul, Nat.reduceLT, Nat.reduceLeDiff, Nat.reduceSub, reduceCtorEq, reduceIte, Int.reduceToNat, beq_self_eq_true, Bool.and_self, List.take_length, decide_true, Bool.not_true, Bool.not_false]
      refine .inl ⟨_, h3, ?_⟩; try simp only [go_sem, Int.reduceEq, Int.reduceNe, Int.reduceLT, Int.reduceLE, Nat.reduceEqDiff, Nat.reduceAdd, Nat.reduceMul, Nat.reduceLT, Nat.reduceLeDiff, Nat.reduceSub, reduceCtorEq, reduceIte, Int.reduceToNat, beq_self_eq_true, Bool.and_self, List.take_length, decide_true, Bool.not_true, Bool.not_false]
      refine hNe _ (VWp.keep [0,4] [] ?_); simp only [go_sem, Int.reduceEq, Int.reduceNe, Int.reduceLT, Int.reduceLE, Nat.reduceEqDiff, Nat.reduceAdd, Nat.reduceMul, Nat.reduceLT, Nat.reduceLeDiff, Nat.reduceSub, reduceCtorEq, reduceIte, Int.reduceToNat, beq_self_eq_true, Bool.and_self, List.take_length, decide_true, Bool.not_true, Bool.not_false]
      refine vwp_seq_k fun Nf hNf => ?_
      refine vwp_seq_k fun Ng hNg => vreg tt_ok hF rfl ?_; simp only [go_sem, Int.reduceEq, Int.reduceNe, Int.reduceLT, Int.reduceLE, Nat.reduceEqDiff, Nat.reduceAdd, Nat.reduceMul, Nat.reduceLT, Nat.reduceLeDiff, Nat.reduceSub, reduceCtorEq, reduceIte, Int.reduceToNat, beq_self_eq_true, Bool.and_self, List.take_length, decide_true, Bool.not_true, Bool.not_false]
      refine hNg _ (VWp.keep [0,4,6] [] ?_); simp only [go_sem, Int.reduceEq, Int.reduceNe, Int.reduceLT, Int.reduceLE, Nat.reduceEqDiff, Nat.reduceAdd, Nat.reduceMul, Nat.reduceLT, Nat.reduceLeDiff, Nat.reduceSub, reduceCtorEq, reduceIte, Int.reduceToNat, beq_self_eq_true, Bool.and_self, List.take_length, decide_true, Bool.not_true, Bool.not_false]
      refine vwp_block (vloop (fun m : Nat => [(0, .str s), (4, intsV l), (6, .int .i64 (m : Int))]) (fun _ => []) (fun m => 1 ≤ m ∧ m ≤ s.length - 1) (fun m => s.length - m) 1 ⟨Nat.le_refl _, by omega⟩ (by simp only [go_sem, Int.reduceEq, Int.reduceNe, Int.reduceLT, Int.reduceLE, Nat.reduceEqDiff, Nat.reduceAdd, Nat.reduceMul, Nat.reduceLT, Nat.reduceLeDiff, Nat.reduceSub, reduceCtorEq, reduceIte, Int.reduceToNat, beq_self_eq_true, Bool.and_self, List.take_length, decide_true, Bool.not_true, Bool.not_false]) ?_)
      rintro m ⟨m1, m2⟩
      refine vwp_seq_k fun Nh hNh => ?_
      refine vwp_seq_k fun Ni hNi => vreg tt_ok hF rfl ?_; simp only [go_sem, Int.reduceEq, Int.reduceNe, Int.reduceLT, Int.reduceLE, Nat.reduceEqDiff, Nat.reduceAdd, Nat.reduceMul, Nat.reduceLT, Nat.reduceLeDiff, Nat.reduceSub, reduceCtorEq, reduceIte, Int.reduceToNat, beq_self_eq_true, Bool.and_self, List.take_length, decide_true, Bool.not_true, Bool.not_false, List.length_map, hwl]
      refine hNi _ (VWp.keep [0,4,6,37] [] ?_); simp only [go_sem, Int.reduceEq, Int.reduceNe, Int.reduceLT, Int.reduceLE, Nat.reduceEqDiff, Nat.reduceAdd, Nat.reduceMul, Nat.reduceLT, Nat.reduceLeDiff, Nat.reduceSub, reduceCtorEq, reduceIte, Int.reduceToNat, beq_self_eq_true, Bool.and_self, List.take_length, decide_true, Bool.not_true, Bool.not_false]
      refine vif rfl ⟨fun ht => ?_, fun hf => ?_⟩
      · have hlt : m < s.length - 1 := by have := of_decide_eq_true ht; omega
        have hpl2 : (0 : Int) ≤ (m : Int) ∧ (m : Int) < (l.length : Int) := ⟨by omega, by omega⟩
        have hrow := int_row l m (by omega)
        refine vwp_skip (hNh _ ?_)
        refine vwp_seq_k fun Nj hNj => ?_
        refine vwp_block ?_
        refine vwp_seq_k fun Nk hNk => vreg tt_ok hF rfl ?_; simp only [go_sem, Int.reduceEq, Int.reduceNe, Int.reduceLT, Int.reduceLE, Nat.reduceEqDiff, Nat.reduceAdd, Nat.reduceMul, Nat.reduceLT, Nat.reduceLeDiff, Nat.reduceSub, reduceCtorEq, reduceIte, Int.reduceToNat, beq_self_eq_true, Bool.and_self, List.take_length, decide_true, Bool.not_true, Bool.not_false, List.length_map, hpl2, hrow]
        refine hNk _ (VWp.keep [0,4,6,44] [] ?_); simp only [go_sem, Int.reduceEq, Int.reduceNe, Int.reduceLT, Int.reduceLE, Nat.reduceEqDiff, Nat.reduceAdd, Nat.reduceMul, Nat.reduceLT, Nat.reduceLeDiff, Nat.reduceSub, reduceCtorEq, reduceIte, Int.reduceToNat, beq_self_eq_true, Bool.and_self, List.take_length, decide_true, Bool.not_true, Bool.not_false]
        refine vif rfl ⟨fun ht => ?_, fun hf => ?_⟩
        · have hRn : R = none := by rw [← hR]; exact hno (.inl ⟨m, m1, by omega, of_decide_eq_true ht⟩)
          subst hRn
          refine vwp_seq_k fun Nl hNl => vreg tt_ok hF rfl ?_; simp only [go_sem, Int.reduceEq, Int.reduceNe, Int.reduceLT, Int.reduceLE, Nat.reduceEqDiff, Nat.reduceAdd, Nat.reduceMul, Nat.reduceLT, Nat.reduceLeDiff, Nat.reduceSub, reduceCtorEq, reduceIte, Int.reduceToNat, beq_self_eq_true, Bool.and_self, List.take_length, decide_true, Bool.not_true, Bool.not_false]
          refine hNl _ (VWp.keep [2,3] [] ?_); simp only [go_sem, Int.reduceEq, Int.reduceNe, Int.reduceLT, Int.reduceLE, Nat.reduceEqDiff, Nat.reduceAdd, Nat.reduceMul, Nat.reduceLT, Nat.reduceLeDiff, Nat.reduceSub, reduceCtorEq, reduceIte, Int.reduceToNat, beq_self_eq_true, Bool.and_self, List.take_length, decide_true, Bool.not_true, Bool.not_false]
          refine vwp_ret ?_
          simp only [go_sem, Int.reduceEq, Int.reduceNe, Int.reduceLT, Int.reduceLE, Nat.reduceEqDiff, Nat.reduceAdd, Nat.reduceMul, Nat.reduceLT, Nat.reduceLeDiff, Nat.reduceSub, reduceCtorEq, reduceIte, Int.reduceToNat, beq_self_eq_true, Bool.and_self, List.take_length, decide_true, Bool.not_true, Bool.not_false]
          exact LeV.tup ⟨LeV.nil 1, LeV.refl _, trivial⟩
        · refine vwp_skip (hNj _ ?_)
          refine vreg tt_ok hF rfl ?_; simp only [go_sem, Int.reduceEq, Int.reduceNe, Int.reduceLT, Int.reduceLE, Nat.reduceEqDiff, Nat.reduceAdd, Nat.reduceMul, Nat.reduceLT, Nat.reduceLeDiff, Nat.reduceSub, reduceCtorEq, reduceIte, Int.reduceToNat, beq_self_eq_true, Bool.and_self, List.take_length, decide_true, Bool.not_true, Bool.not_false]
          rw [wrap_i64 (by omega) (by omega)]
          exact ⟨m + 1, ⟨by omega, by omega⟩, by omega, by simp [intsV]⟩
      · have hpl2 : (0 : Int) ≤ ((s.length - 1 : Nat) : Int) ∧ ((s.length - 1 : Nat) : Int) < (l.length : Int) := ⟨by omega, by omega⟩
        have hrow := int_row l (s.length - 1) (by omega)
        refine vwp_exit ?_
        simp only [go_sem, Int.reduceEq, Int.reduceNe, Int.reduceLT, Int.reduceLE, Nat.reduceEqDiff, Nat.reduceAdd, Nat.reduceMul, Nat.reduceLT, Nat.reduceLeDiff, Nat.reduceSub, reduceCtorEq, reduceIte, Int.reduceToNat, beq_self_eq_true, Bool.and_self, List.take_length, decide_true, Bool.not_true, Bool.not_false]
        refine hNf _ (VWp.keep [0,4] [] ?_); simp only [go_sem, Int.reduceEq, Int.reduceNe, Int.reduceLT, Int.reduceLE, Nat.reduceEqDiff, Nat.reduceAdd, Nat.reduceMul, Nat.reduceLT, Nat.reduceLeDiff, Nat.reduceSub, reduceCtorEq, reduceIte, Int.reduceToNat, beq_self_eq_true, Bool.and_self, List.take_length, decide_true, Bool.not_true, Bool.not_false]
        refine vwp_seq_k fun Nm hNm => ?_
        refine vwp_seq_k fun Nn hNn => vreg tt_ok hF rfl ?_; simp only [go_sem, Int.reduceEq, Int.reduceNe, Int.reduceLT, Int.reduceLE, Nat.reduceEqDiff, Nat.reduceAdd, Nat.reduceMul, Nat.reduceLT, Nat.reduceLeDiff, Nat.reduceSub, reduceCtorEq, reduceIte, Int.reduceToNat, beq_self_eq_true, Bool.and_self, List.take_length, decide_true, Bool.not_true, Bool.not_false, List.length_map, hwl, hpl2, hrow]
        refine hNn _ (VWp.keep [0,51] [] ?_); simp only [go_sem, Int.reduceEq, Int.reduceNe, Int.reduceLT, Int.reduceLE, Nat.reduceEqDiff, Nat.reduceAdd, Nat.reduceMul, Nat.reduceLT, Nat.reduceLeDiff, Nat.reduceSub, reduceCtorEq, reduceIte, Int.reduceToNat, beq_self_eq_true, Bool.and_self, List.take_length, decide_true, Bool.not_true, Bool.not_false]
        refine vif rfl ⟨fun ht => ?_, fun hf => ?_⟩
        · have hRn : R = none := by
            rw [← hR]
            refine hno (.inr ?_)
            rw [hl2]
            simpa using ht
          subst hRn
          refine vwp_seq_k fun No hNo => vreg tt_ok hF rfl ?_; simp only [go_sem, Int.reduceEq, Int.reduceNe, Int.reduceLT, Int.reduceLE, Nat.reduceEqDiff, Nat.reduceAdd, Nat.reduceMul, Nat.reduceLT, Nat.reduceLeDiff, Nat.reduceSub, reduceCtorEq, reduceIte, Int.reduceToNat, beq_self_eq_true, Bool.and_self, List.take_length, decide_true, Bool.not_true, Bool.not_false]
          refine hNo _ (VWp.keep [2,3] [] ?_); simp only [go_sem, Int.reduceEq, Int.reduceNe, Int.reduceLT, Int.reduceLE, Nat.reduceEqDiff, Nat.reduceAdd, Nat.reduceMul, Nat.reduceLT, Nat.reduceLeDiff, Nat.reduceSub, reduceCtorEq, reduceIte, Int.reduceToNat, beq_self_eq_true, Bool.and_self, List.take_length, decide_true, Bool.not_true, Bool.not_false]
          refine vwp_ret ?_
          simp only [go_sem, Int.reduceEq, Int.reduceNe, Int.reduceLT, Int.reduceLE, Nat.reduceEqDiff, Nat.reduceAdd, Nat.reduceMul, Nat.reduceLT, Nat.reduceLeDiff, Nat.reduceSub, reduceCtorEq, reduceIte, Int.reduceToNat, beq_self_eq_true, Bool.and_self, List.take_length, decide_true, Bool.not_true, Bool.not_false]
          exact LeV.tup ⟨LeV.nil 1, LeV.refl _, trivial⟩
        · subst hR
          refine vwp_skip (hNm _ ?_)
          refine vwp_seq_k fun Np hNp => vreg tt_ok hF rfl ?_; simp only [go_sem, Int.reduceEq, Int.reduceNe, Int.reduceLT, Int.reduceLE, Nat.reduceEqDiff, Nat.reduceAdd, Nat.reduceMul, Nat.reduceLT, Nat.reduceLeDiff, Nat.reduceSub, reduceCtorEq, reduceIte, Int.reduceToNat, beq_self_eq_true, Bool.and_self, List.take_length, decide_true, Bool.not_true, Bool.not_false, hw]
          refine ⟨by omega, ?_⟩
          refine .inl ⟨_, h2, ?_⟩; try simp only [go_sem, Int.reduceEq, Int.reduceNe, Int.reduceLT, Int.reduceLE, Nat.reduceEqDiff, Nat.reduceAdd, Nat.reduceMul, Nat.reduceLT, Nat.reduceLeDiff, Nat.reduceSub, reduceCtorEq, reduceIte, Int.reduceToNat, beq_self_eq_true, Bool.and_self, List.take_length, decide_true, Bool.not_true, Bool.not_false]
          refine hNp _ (VWp.keep [2,3] [] ?_); simp only [go_sem, Int.reduceEq, Int.reduceNe, Int.reduceLT, Int.reduceLE, Nat.reduceEqDiff, Nat.reduceAdd, Nat.reduceMul, Nat.reduceLT, Nat.reduceLeDiff, Nat.reduceSub, reduceCtorEq, reduceIte, Int.reduceToNat, beq_self_eq_true, Bool.and_self, List.take_length, decide_true, Bool.not_true, Bool.not_false]
          refine vwp_ret ?_
          simp only [go_sem, Int.reduceEq, Int.reduceNe, Int.reduceLT, Int.reduceLE, Nat.reduceEqDiff, Nat.reduceAdd, Nat.reduceMul, Nat.reduceLT, Nat.reduceLeDiff, Nat.reduceSub, reduceCtorEq, reduceIte, Int.reduceToNat, beq_self_eq_true, Bool.and_self, List.take_length, decide_true, Bool.not_true, Bool.not_false]
          exact LeV.refl _
  · rw [decide_eq_false hl] at e1 ⊢
    refine spec_of tt_ok Tryd.func17 rfl (by decide) Tryd.ntmps17 (congrArg Array.toList Tryd.results17) (by simp) (by decide) rfl rfl (fun F hF => ?_)
    refine vwp_seq_k fun Na hNa => vreg tt_ok hF rfl ?_; simp only [go_sem, Int.reduceEq, Int.reduceNe, Int.reduceLT, Int.reduceLE, Nat.reduceEqDiff, Nat.reduceAdd, Nat.reduceMul, Nat.reduceLT, Nat.reduceLeDiff, Nat.reduceSub, reduceCtorEq, reduceIte, Int.reduceToNat, beq_self_eq_true, Bool.and_self, List.take_length, decide_true, Bool.not_true, Bool.not_false]
    refine hNa _ (VWp.keep [0] [] ?_); simp only [go_sem, Int.reduceEq, Int.reduceNe, Int.reduceLT, Int.reduceLE, Nat.reduceEqDiff, Nat.reduceAdd, Nat.reduceMul, Nat.reduceLT, Nat.reduceLeDiff, Nat.reduceSub, reduceCtorEq, reduceIte, Int.reduceToNat, beq_self_eq_true, Bool.and_self, List.take_length, decide_true, Bool.not_true, Bool.not_false]
    refine vwp_seq_k fun Nb hNb => ?_
    refine vwp_seq_k fun Nc hNc => vreg tt_ok hF rfl ?_; simp only [go_sem, Int.reduceEq, Int.reduceNe, Int.reduceLT, Int.reduceLE, Nat.reduceEqDiff, Nat.reduceAdd, Nat.reduceMul, Nat.reduceLT, Nat.reduceLeDiff, Nat.reduceSub, reduceCtorEq, reduceIte, Int.reduceToNat, beq_self_eq_true, Bool.and_self, List.take_length, decide_true, Bool.not_true, Bool.not_false, e1]
    refine hNc _ (VWp.keep [0,27] [] ?_); simp only [go_sem, Int.reduceEq, Int.reduceNe, Int.reduceLT, Int.reduceLE, Nat.reduceEqDiff, Nat.reduceAdd, Nat.reduceMul, Nat.reduceLT, Nat.reduceLeDiff, Nat.reduceSub, reduceCtorEq, reduceIte, Int.reduceToNat, beq_self_eq_true, Bool.and_self, List.take_length, decide_true, Bool.not_true, Bool.not_false]
    refine vif rfl ⟨fun ht => ?_, fun hf => (by cases hf)⟩
    refine vwp_seq_k fun Nd hNd => vreg tt_ok hF rfl ?_; simp only [go_sem, Int.reduceEq, Int.reduceNe, Int.reduceLT, Int.reduceLE, Nat.reduceEqDiff, Nat.reduceAdd, Nat.reduceMul, Nat.reduceLT, Nat.reduceLeDiff, Nat.reduceSub, reduceCtorEq, reduceIte, Int.reduceToNat, beq_self_eq_true, Bool.and_self, List.take_length, decide_true, Bool.not_true, Bool.not_false]
    refine hNd _ (VWp.keep [2,3] [] ?_); simp only [go_sem, Int.reduceEq, Int.reduceNe, Int.reduceLT, Int.reduceLE, Nat.reduceEqDiff, Nat.reduceAdd, Nat.reduceMul, Nat.reduceLT, Nat.reduceLeDiff, Nat.reduceSub, reduceCtorEq, reduceIte, Int.reduceToNat, beq_self_eq_true, Bool.and_self, List.take_length, decide_true, Bool.not_true, Bool.not_false]
    refine vwp_ret ?_
    simp only [go_sem, Int.reduceEq, Int.reduceNe, Int.reduceLT, Int.reduceLE, Nat.reduceEqDiff, Nat.reduceAdd, Nat.reduceMul, Nat.reduceLT, Nat.reduceLeDiff, Nat.reduceSub, reduceCtorEq, reduceIte, Int.reduceToNat, beq_self_eq_true, Bool.and_self, List.take_length, decide_true, Bool.not_true, Bool.not_false]
    exact LeV.tup ⟨LeV.nil 1, LeV.refl _, trivial⟩
end Go.Proofs.YtnaljgmcpagbbaaDoor

/- The reference of layer 34: texts, parameters found. -/
-- SIMP: beq_self_eq_true, Bool.and_self, List.take_length, decide_true, Bool.not_true, Bool.not_false
namespace Go.Proofs.YtnaljgmcpagbbaaDoor
open Go.RowKit
set_option linter.unusedVariables false
set_option linter.unusedSimpArgs false
def parO (c : UInt8) (x : Int) : Bool := decide (x < 0) || !(c == 40 || c == 41)
theorem txt_of {s : Jb} {l : List Int} (h : plJ s 0 false = some (l, true)) (hv : valueJ s = true) :
    txtJ s = if !((s.zip l).all fun v => parO v.1 v.2) then none
      else if (l.filter fun x => decide (x < 0)).length = 0 then some s
      else if (l.filter fun x => decide (x < 0)).length < s.length then none
      else some (unqJ ((s.take (s.length - 1)).drop 1)) := by
  obtain ⟨h1, h2, h3⟩ := pl_some h
  have hc := visO_count s l 0 h1
  have hp := visO_par s l 0
  rw [← h2] at hc hp
  have hp : (visJ s).all (fun v => !(v.2.1 == 40 || v.2.1 == 41)) = (s.zip l).all fun v => parO v.1 v.2 := hp
  unfold txtJ
  rw [h3, hv, hp]
  simp only [Bool.true_and]
  by_cases ha : ((s.zip l).all fun v => parO v.1 v.2) = true
  · rw [ha]
    simp only [Bool.not_true, Bool.false_eq_true, if_false]
    by_cases q0 : (l.filter fun x => decide (x < 0)).length = 0
    · rw [if_pos q0, if_pos (by omega)]
    · rw [if_neg q0, if_neg (by omega)]
      by_cases q1 : (l.filter fun x => decide (x < 0)).length < s.length
      · rw [if_pos q1, if_pos (by omega)]
      · rw [if_neg q1, if_neg (by omega)]
  · rw [Bool.not_eq_true] at ha
    rw [ha]; rfl
theorem filter_step (l : List Int) (m : Nat) (h : m < l.length) : ((l.take (m + 1)).filter fun x => decide (x < 0)).length = ((l.take m).filter fun x => decide (x < 0)).length + (if l.getD m 0 < 0 then 1 else 0) := by
  rw [List.take_add_one, List.filter_append, List.length_append, List.getElem?_eq_getElem h, List.getD_eq_getElem?_getD, List.getElem?_eq_getElem h]
  simp only [Option.toList_some, Option.getD_some]
  by_cases hx : l[m] < 0
  · rw [if_pos hx, List.filter_cons, if_pos (by simpa using hx)]; rfl
  · rw [if_neg hx, List.filter_cons, if_neg (by simpa using hx)]; rfl
theorem byte_rows (l : Jb) : (l.map fun c => [V.int .u8 ((c.toNat : Nat) : Int)]) = bytesR l := rfl
theorem in_take (s : Jb) (i : Nat) (h : i < s.length - 1) : (s.take (s.length - 1)).drop i = s.getD i 0 :: (s.take (s.length - 1)).drop (i + 1) := by
  rw [drop_at _ i (by rw [List.length_take]; omega)]
  congr 1
  rw [List.getD_eq_getElem?_getD, List.getD_eq_getElem?_getD, List.getElem?_take, if_pos h]
set_option maxHeartbeats 16000000 in
set_option maxRecDepth 4000 in
theorem rText_spec (s : Jb) (hs : s.length ≤ 1000000) : Spec Tryd.prog 19 [.str s] (.tup [.str ((txtJ s).getD []), .bool (txtJ s).isSome]) := by
  have h1 := rValue_spec s (by omega)
  have h3 := places_spec s (by omega)
  obtain ⟨l0, ok0, hv0, _, _, _⟩ := plc_cases s
  cases hval : valueJ s with
  | false =>
    have ht : txtJ s = none := by unfold txtJ; rw [hval]; simp
    rw [ht]
    rw [hval] at h1
    rw [hv0] at h3
    refine spec_of tt_ok Tryd.func19 rfl (by decide) Tryd.ntmps19 (congrArg Array.toList Tryd.results19) (by simp) (by decide) rfl rfl (fun F hF => ?_)
    refine vwp_seq_k fun Na hNa => vreg tt_ok hF rfl ?_; simp only [go_sem, Int.reduceEq, Int.reduceNe, Int.reduceLT, Int.reduceLE, Nat.reduceEqDiff, Nat.reduceAdd, Nat.reduceMul, Nat.reduceLT, Nat.reduceLeDiff, Nat.reduceSub, reduceCtorEq, reduceIte, Int.reduceToNat, beq_self_eq_true, Bool.and_self, List.take_length, decide_true, Bool.not_true, Bool.not_false]
    refine hNa _ (VWp.keepR [0] [] tt_ok hF rfl fun Nb hNb => ?_); simp only [go_sem, Int.reduceEq, Int.reduceNe, Int.reduceLT, Int.reduceLE, Nat.reduceEqDiff, Nat.reduceAdd, Nat.reduceMul, Nat.reduceLT, Nat.reduceLeDiff, Nat.reduceSub, reduceCtorEq, reduceIte, Int.reduceToNat, beq_self_eq_true, Bool.and_self, List.take_length, decide_true, Bool.not_true, Bool.not_false]
    refine .inl ⟨_, h3, ?_⟩; try simp only [go_sem, Int.reduceEq, Int.reduceNe, Int.reduceLT, Int.reduceLE, Nat.reduceEqDiff, Nat.reduceAdd, Nat.reduceMul, Nat.reduceLT, Nat.reduceLeDiff, Nat.reduceSub, reduceCtorEq, reduceIte, Int.reduceToNat, beq_self_eq_true, Bool.and_self, List.take_length, decide_true, Bool.not_true, Bool.not_false]
    refine hNb _ (VWp.keep [0,4] [] ?_); simp only [go_sem, Int.reduceEq, Int.reduceNe, Int.reduceLT, Int.reduceLE, Nat.reduceEqDiff, Nat.reduceAdd, Nat.reduceMul, Nat.reduceLT, Nat.reduceLeDiff, Nat.reduceSub, reduceCtorEq, reduceIte, Int.reduceToNat, beq_self_eq_true, Bool.and_self, List.take_length, decide_true, Bool.not_true, Bool.not_false]
    refine vwp_seq_k fun Nc hNc => ?_
    refine vwp_seq_k fun Nd hNd => vreg tt_ok hF rfl ?_; simp only [go_sem, Int.reduceEq, Int.reduceNe, Int.reduceLT, Int.reduceLE, Nat.reduceEqDiff, Nat.reduceAdd, Nat.reduceMul, Nat.reduceLT, Nat.reduceLeDiff, Nat.reduceSub, reduceCtorEq, reduceIte, Int.reduceToNat, beq_self_eq_true, Bool.and_self, List.take_length, decide_true, Bool.not_true, Bool.not_false]
    refine .inl ⟨_, h1, ?_⟩; try simp only [go_sem, Int.reduceEq, Int.reduceNe, Int.reduceLT, Int.reduceLE, Nat.reduceEqDiff, Nat.reduceAdd, Nat.reduceMul, Nat.reduceLT, Nat.reduceLeDiff, Nat.reduceSub, reduceCtorEq, reduceIte, Int.reduceToNat, beq_self_eq_true, Bool.and_self, List.take_length, decide_true, Bool.not_true, Bool.not_false]
    refine hNd _ (VWp.keep [0,4,17] [] ?_); simp only [go_sem, Int.reduceEq, Int.reduceNe, Int.reduceLT, Int.reduceLE, Nat.reduceEqDiff, Nat.reduceAdd, Nat.reduceMul, Nat.reduceLT, Nat.reduceLeDiff, Nat.reduceSub, reduceCtorEq, reduceIte, Int.reduceToNat, beq_self_eq_true, Bool.and_self, List.take_length, decide_true, Bool.not_true, Bool.not_false]
    refine vif rfl ⟨fun ht => ?_, fun hf => (by cases hf)⟩
    refine vwp_seq_k fun Ne hNe => vreg tt_ok hF rfl ?_; simp only [go_sem, Int.reduceEq, Int.reduceNe, Int.reduceLT, Int.reduceLE, Nat.reduceEqDiff, Nat.reduceAdd, Nat.reduceMul, Nat.reduceLT, Nat.reduceLeDiff, Nat.reduceSub, reduceCtorEq, reduceIte, Int.reduceToNat, beq_self_eq_true, Bool.and_self, List.take_length, decide_true, Bool.not_true, Bool.not_false]
    refine hNe _ (VWp.keep [2,3] [] ?_); simp only [go_sem, Int.reduceEq, Int.reduceNe, Int.reduceLT, Int.reduceLE, Nat.reduceEqDiff, Nat.reduceAdd, Nat.reduceMul, Nat.reduceLT, Nat.reduceLeDiff, Nat.reduceSub, reduceCtorEq, reduceIte, Int.reduceToNat, beq_self_eq_true, Bool.and_self, List.take_length, decide_true, Bool.not_true, Bool.not_false]
    refine vwp_ret ?_
    simp only [go_sem, Int.reduceEq, Int.reduceNe, Int.reduceLT, Int.reduceLE, Nat.reduceEqDiff, Nat.reduceAdd, Nat.reduceMul, Nat.reduceLT, Nat.reduceLeDiff, Nat.reduceSub, reduceCtorEq, reduceIte, Int.reduceToNat, beq_self_eq_true, Bool.and_self, List.take_length, decide_true, Bool.not_true, Bool.not_false]
    exact LeV.refl _
  | true =>
    rw [hval] at h1
    obtain ⟨l, hpl⟩ := pl_bal (val_parts hval).2.1
    obtain ⟨hlen, hvis, hbal⟩ := pl_some hpl
    have htx := txt_of hpl hval
    rw [hpl] at h3
    have h3 : Spec Tryd.prog 40 [.str s] (.tup [intsV l, .bool true]) := h3
    have hz := zip_all s l hlen parO
    have hcnt := visO_count s l 0 hlen
    rw [← hvis] at hcnt
    obtain ⟨R, hR⟩ : ∃ R, txtJ s = R := ⟨_, rfl⟩
    rw [hR] at htx ⊢
    refine spec_of tt_ok Tryd.func19 rfl (by decide) Tryd.ntmps19 (congrArg Array.toList Tryd.results19) (by simp) (by decide) rfl rfl (fun F hF => ?_)
    refine vwp_seq_k fun Na hNa => vreg tt_ok hF rfl ?_; simp only [go_sem, Int.reduceEq, Int.reduceNe, Int.reduceLT, Int.reduceLE, Nat.reduceEqDiff, Nat.reduceAdd, Nat.reduceMul, Nat.reduceLT, Nat.reduceLeDiff, Nat.reduceSub, reduceCtorEq, reduceIte, Int.reduceToNat, beq_self_eq_true, Bool.and_self, List.take_length, decide_true, Bool.not_true, Bool.not_false]
    refine hNa _ (VWp.keepR [0] [] tt_ok hF rfl fun Nb hNb => ?_); simp only [go_sem, Int.reduceEq, Int.reduceNe, Int.reduceLT, Int.reduceLE, Nat.reduceEqDiff, Nat.reduceAdd, Nat.reduceMul, Nat.reduceLT, Nat.reduceLeDiff, Nat.reduceSub, reduceCtorEq, reduceIte, Int.reduceToNat, beq_self_eq_true, Bool.and_self, List.take_length, decide_true, Bool.not_true, Bool.not_false]
    refine .inl ⟨_, h3, ?_⟩; try simp only [go_sem, Int.reduceEq, Int.reduceNe, Int.reduceLT, Int.reduceLE, Nat.reduceEqDiff, Nat.reduceAdd, Nat.reduceMul, Nat.reduceLT, Nat.reduceLeDiff, Nat.reduceSub, reduceCtorEq, reduceIte, Int.reduceToNat, beq_self_eq_true, Bool.and_self, List.take_length, decide_true, Bool.not_true, Bool.not_false]
    refine hNb _ (VWp.keep [0,4] [] ?_); simp only [go_sem, Int.reduceEq, Int.reduceNe, Int.reduceLT, Int.reduceLE, Nat.reduceEqDiff, Nat.reduceAdd, Nat.reduceMul, Nat.reduceLT, Nat.reduceLeDiff, Nat.reduceSub, reduceCtorEq, reduceIte, Int.reduceToNat, beq_self_eq_true, Bool.and_self, List.take_length, decide_true, Bool.not_true, Bool.not_false]
    refine vwp_seq_k fun Nc hNc => ?_
    refine vwp_seq_k fun Nd hNd => vreg tt_ok hF rfl ?_; simp only [go_sem, Int.reduceEq, Int.reduceNe, Int.reduceLT, Int.reduceLE, Nat.reduceEqDiff, Nat.reduceAdd, Nat.reduceMul, Nat.reduceLT, Nat.reduceLeDiff, Nat.reduceSub, reduceCtorEq, reduceIte, Int.reduceToNat, beq_self_eq_true, Bool.and_self, List.take_length, decide_true, Bool.not_true, Bool.not_false]
    refine .inl ⟨_, h1, ?_⟩; try simp only [go_sem, Int.reduceEq, Int.reduceNe, Int.reduceLT, Int.reduceLE, Nat.reduceEqDiff, Nat.reduceAdd, Nat.reduceMul, Nat.reduceLT, Nat.reduceLeDiff, Nat.reduceSub, reduceCtorEq, reduceIte, Int.reduceToNat, beq_self_eq_true, Bool.and_self, List.take_length, decide_true, Bool.not_true, Bool.not_false]
    refine hNd _ (VWp.keep [0,4,17] [] ?_); simp only [go_sem, Int.reduceEq, Int.reduceNe, Int.reduceLT, Int.reduceLE, Nat.reduceEqDiff, Nat.reduceAdd, Nat.reduceMul, Nat.reduceLT, Nat.reduceLeDiff, Nat.reduceSub, reduceCtorEq, reduceIte, Int.reduceToNat, beq_self_eq_true, Bool.and_self, List.take_length, decide_true, Bool.not_true, Bool.not_false]
    refine vif rfl ⟨fun ht => (by cases ht), fun hf => ?_⟩
    refine vwp_skip (hNc _ ?_)
    refine vwp_seq_k fun Nf hNf => vreg tt_ok hF rfl ?_; simp only [go_sem, Int.reduceEq, Int.reduceNe, Int.reduceLT, Int.reduceLE, Nat.reduceEqDiff, Nat.reduceAdd, Nat.reduceMul, Nat.reduceLT, Nat.reduceLeDiff, Nat.reduceSub, reduceCtorEq, reduceIte, Int.reduceToNat, beq_self_eq_true, Bool.and_self, List.take_length, decide_true, Bool.not_true, Bool.not_false]
    refine hNf _ (VWp.keep [0,4,6] [] ?_); simp only [go_sem, Int.reduceEq, Int.reduceNe, Int.reduceLT, Int.reduceLE, Nat.reduceEqDiff, Nat.reduceAdd, Nat.reduceMul, Nat.reduceLT, Nat.reduceLeDiff, Nat.reduceSub, reduceCtorEq, reduceIte, Int.reduceToNat, beq_self_eq_true, Bool.and_self, List.take_length, decide_true, Bool.not_true, Bool.not_false]
    refine vwp_seq_k fun Ng hNg => ?_
    refine vwp_seq_k fun Nh hNh => vreg tt_ok hF rfl ?_; simp only [go_sem, Int.reduceEq, Int.reduceNe, Int.reduceLT, Int.reduceLE, Nat.reduceEqDiff, Nat.reduceAdd, Nat.reduceMul, Nat.reduceLT, Nat.reduceLeDiff, Nat.reduceSub, reduceCtorEq, reduceIte, Int.reduceToNat, beq_self_eq_true, Bool.and_self, List.take_length, decide_true, Bool.not_true, Bool.not_false]
    refine hNh _ (VWp.keep [0,4,6,7] [] ?_); simp only [go_sem, Int.reduceEq, Int.reduceNe, Int.reduceLT, Int.reduceLE, Nat.reduceEqDiff, Nat.reduceAdd, Nat.reduceMul, Nat.reduceLT, Nat.reduceLeDiff, Nat.reduceSub, reduceCtorEq, reduceIte, Int.reduceToNat, beq_self_eq_true, Bool.and_self, List.take_length, decide_true, Bool.not_true, Bool.not_false]
    refine vwp_block (vloop (fun m : Nat => [(0, .str s), (4, intsV l), (6, .int .i64 (((l.take m).filter fun x => decide (x < 0)).length : Int)), (7, .int .i64 (m : Int))]) (fun _ => []) (fun m => m ≤ s.length ∧ ∀ j < m, parO (s.getD j 0) (l.getD j 0) = true) (fun m => s.length - m) 0 ⟨Nat.zero_le _, fun j hj => by omega⟩ (by simp only [go_sem, Int.reduceEq, Int.reduceNe, Int.reduceLT, Int.reduceLE, Nat.reduceEqDiff, Nat.reduceAdd, Nat.reduceMul, Nat.reduceLT, Nat.reduceLeDiff, Nat.reduceSub, reduceCtorEq, reduceIte, Int.reduceToNat, beq_self_eq_true, Bool.and_self, List.take_length, decide_true, Bool.not_true, Bool.not_false]; try simp) ?_)
    rintro m ⟨m1, m2⟩
    have e0 : decide ((m : Int) < (l.length : Int)) = decide (m < s.length) := by apply decide_eq_decide.2; omega
    have hql : ((l.take m).filter fun x => decide (x < 0)).length ≤ l.length := Nat.le_trans (List.length_filter_le _ _) (by rw [List.length_take]; omega)
    refine vwp_seq_k fun Ni hNi => ?_
    refine vwp_seq_k fun Nj hNj => vreg tt_ok hF rfl ?_; simp only [go_sem, Int.reduceEq, Int.reduceNe, Int.reduceLT, Int.reduceLE, Nat.reduceEqDiff, Nat.reduceAdd, Nat.reduceMul, Nat.reduceLT, Nat.reduceLeDiff, Nat.reduceSub, reduceCtorEq, reduceIte, Int.reduceToNat, beq_self_eq_true, Bool.and_self, List.take_length, decide_true, Bool.not_true, Bool.not_false, List.length_map, e0]
    refine hNj _ (VWp.keep [0,4,6,7,21] [] ?_); simp only [go_sem, Int.reduceEq, Int.reduceNe, Int.reduceLT, Int.reduceLE, Nat.reduceEqDiff, Nat.reduceAdd, Nat.reduceMul, Nat.reduceLT, Nat.reduceLeDiff, Nat.reduceSub, reduceCtorEq, reduceIte, Int.reduceToNat, beq_self_eq_true, Bool.and_self, List.take_length, decide_true, Bool.not_true, Bool.not_false]
    refine vif rfl ⟨fun ht => ?_, fun hf => ?_⟩
    · have hlt : m < s.length := of_decide_eq_true ht
      have hpm : (0 : Int) ≤ (m : Int) ∧ (m : Int) < (s.length : Int) := ⟨by omega, by omega⟩
      have hpl2 : (0 : Int) ≤ (m : Int) ∧ (m : Int) < (l.length : Int) := ⟨by omega, by omega⟩
      have hrow := int_row l m (by omega)
      have hfs := filter_step l m (by omega)
      refine vwp_skip (hNi _ ?_)
      refine vwp_seq_k fun Nk hNk => ?_
      refine vwp_block ?_
      refine vwp_seq_k fun Nl hNl => vreg tt_ok hF rfl ?_; simp only [go_sem, Int.reduceEq, Int.reduceNe, Int.reduceLT, Int.reduceLE, Nat.reduceEqDiff, Nat.reduceAdd, Nat.reduceMul, Nat.reduceLT, Nat.reduceLeDiff, Nat.reduceSub, reduceCtorEq, reduceIte, Int.reduceToNat, beq_self_eq_true, Bool.and_self, List.take_length, decide_true, Bool.not_true, Bool.not_false, List.length_map, hpl2, hrow]
      refine hNl _ (VWp.keep [0,4,6,7,28] [] ?_); simp only [go_sem, Int.reduceEq, Int.reduceNe, Int.reduceLT, Int.reduceLE, Nat.reduceEqDiff, Nat.reduceAdd, Nat.reduceMul, Nat.reduceLT, Nat.reduceLeDiff, Nat.reduceSub, reduceCtorEq, reduceIte, Int.reduceToNat, beq_self_eq_true, Bool.and_self, List.take_length, decide_true, Bool.not_true, Bool.not_false]
      refine vif rfl ⟨fun ht => ?_, fun hf => ?_⟩
      · have hneg : l.getD m 0 < 0 := of_decide_eq_true ht
        rw [if_pos hneg] at hfs
        refine vreg tt_ok hF rfl ?_; simp only [go_sem, Int.reduceEq, Int.reduceNe, Int.reduceLT, Int.reduceLE, Nat.reduceEqDiff, Nat.reduceAdd, Nat.reduceMul, Nat.reduceLT, Nat.reduceLeDiff, Nat.reduceSub, reduceCtorEq, reduceIte, Int.reduceToNat, beq_self_eq_true, Bool.and_self, List.take_length, decide_true, Bool.not_true, Bool.not_false]
        rw [wrap_i64 (by omega) (by omega)]
        refine hNk _ (VWp.keep [0,4,6,7] [] ?_); simp only [go_sem, Int.reduceEq, Int.reduceNe, Int.reduceLT, Int.reduceLE, Nat.reduceEqDiff, Nat.reduceAdd, Nat.reduceMul, Nat.reduceLT, Nat.reduceLeDiff, Nat.reduceSub, reduceCtorEq, reduceIte, Int.reduceToNat, beq_self_eq_true, Bool.and_self, List.take_length, decide_true, Bool.not_true, Bool.not_false]
        refine vreg tt_ok hF rfl ?_; simp only [go_sem, Int.reduceEq, Int.reduceNe, Int.reduceLT, Int.reduceLE, Nat.reduceEqDiff, Nat.reduceAdd, Nat.reduceMul, Nat.reduceLT, Nat.reduceLeDiff, Nat.reduceSub, reduceCtorEq, reduceIte, Int.reduceToNat, beq_self_eq_true, Bool.and_self, List.take_length, decide_true, Bool.not_true, Bool.not_false]
        rw [wrap_i64 (by omega) (by omega)]
        refine ⟨m + 1, ⟨by omega, fun j hj => ?_⟩, by omega, by rw [hfs]; simp [intsV]⟩
        rcases Nat.lt_succ_iff_lt_or_eq.1 hj with h | h
        · exact m2 j h
        · subst h; unfold parO; rw [decide_eq_true hneg]; rfl
      · have hneg : ¬ l.getD m 0 < 0 := of_decide_eq_false hf
        rw [if_neg hneg, Nat.add_zero] at hfs
        refine vmeet (fun y : Bool => [(0, .str s), (4, intsV l), (6, .int .i64 (((l.take m).filter fun x => decide (x < 0)).length : Int)), (7, .int .i64 (m : Int)), (40, .bool y)]) (fun _ => []) (fun y => y = !parO (s.getD m 0) (l.getD m 0)) ?_ ?_
        · have e1 : decide ((((s.getD m 0).toNat : Nat) : Int) = (40 : Int)) = (s.getD m 0 == 40) := u8eq 40 _
          have e2 : decide ((((s.getD m 0).toNat : Nat) : Int) = (41 : Int)) = (s.getD m 0 == 41) := u8eq 41 _
          unfold parO
          rw [decide_eq_false hneg]
          generalize (s.getD m 0 == 40) = b1 at e1 ⊢
          generalize (s.getD m 0 == 41) = b2 at e2 ⊢
          cases b1
          all_goals
            refine vreg tt_ok hF rfl ?_; simp only [go_sem, Int.reduceEq, Int.reduceNe, Int.reduceLT, Int.reduceLE, Nat.reduceEqDiff, Nat.reduceAdd, Nat.reduceMul, Nat.reduceLT, Nat.reduceLeDiff, Nat.reduceSub, reduceCtorEq, reduceIte, Int.reduceToNat, beq_self_eq_true, Bool.and_self, List.take_length, decide_true, Bool.not_true, Bool.not_false, hpm, e1, e2]
            exact ⟨_, rfl, by simp⟩
        intro y hy
        refine vif rfl ⟨fun ht => ?_, fun hfy => ?_⟩
        · have hRn : R = none := by
            rw [htx, if_pos]
            cases ha : (s.zip l).all fun v => parO v.1 v.2 with
            | false => rfl
            | true =>
              have := hz.1 ha m hlt
              rw [this, ht] at hy; cases hy
          subst hRn
          refine vwp_seq_k fun Nn hNn => vreg tt_ok hF rfl ?_; simp only [go_sem, Int.reduceEq, Int.reduceNe, Int.reduceLT, Int.reduceLE, Nat.reduceEqDiff, Nat.reduceAdd, Nat.reduceMul, Nat.reduceLT, Nat.reduceLeDiff, Nat.reduceSub, reduceCtorEq, reduceIte, Int.reduceToNat, beq_self_eq_true, Bool.and_self, List.take_length, decide_true, Bool.not_true, Bool.not_false]
          refine hNn _ (VWp.keep [2,3] [] ?_); simp only [go_sem, Int.reduceEq, Int.reduceNe, Int.reduceLT, Int.reduceLE, Nat.reduceEqDiff, Nat.reduceAdd, Nat.reduceMul, Nat.reduceLT, Nat.reduceLeDiff, Nat.reduceSub, reduceCtorEq, reduceIte, Int.reduceToNat, beq_self_eq_true, Bool.and_self, List.take_length, decide_true, Bool.not_true, Bool.not_false]
          refine vwp_ret ?_
          simp only [go_sem, Int.reduceEq, Int.reduceNe, Int.reduceLT, Int.reduceLE, Nat.reduceEqDiff, Nat.reduceAdd, Nat.reduceMul, Nat.reduceLT, Nat.reduceLeDiff, Nat.reduceSub, reduceCtorEq, reduceIte, Int.reduceToNat, beq_self_eq_true, Bool.and_self, List.take_length, decide_true, Bool.not_true, Bool.not_false]
          exact LeV.refl _
        · refine vwp_skip (hNk _ ?_)
          refine vreg tt_ok hF rfl ?_; simp only [go_sem, Int.reduceEq, Int.reduceNe, Int.reduceLT, Int.reduceLE, Nat.reduceEqDiff, Nat.reduceAdd, Nat.reduceMul, Nat.reduceLT, Nat.reduceLeDiff, Nat.reduceSub, reduceCtorEq, reduceIte, Int.reduceToNat, beq_self_eq_true, Bool.and_self, List.take_length, decide_true, Bool.not_true, Bool.not_false]
          rw [wrap_i64 (by omega) (by omega)]
          refine ⟨m + 1, ⟨by omega, fun j hj => ?_⟩, by omega, by rw [hfs]; simp [intsV]⟩
          rcases Nat.lt_succ_iff_lt_or_eq.1 hj with h | h
          · exact m2 j h
          · subst h; rw [hfy] at hy; simpa using hy.symm
    have hm : m = s.length := by have := of_decide_eq_false hf; omega
    subst hm
    have hall := hz.2 m2
    rw [hall] at htx
    simp only [Bool.not_true, Bool.false_eq_true, if_false] at htx
    rw [List.take_of_length_le (by omega)] at hql
    obtain ⟨q, hq⟩ : ∃ q, (l.filter fun x => decide (x < 0)).length = q := ⟨_, rfl⟩
    have hq2 : ((l.take s.length).filter fun x => decide (x < 0)).length = q := by rw [List.take_of_length_le (by omega)]; exact hq
    rw [hq] at htx hcnt
    refine vwp_exit ?_
    simp only [go_sem, Int.reduceEq, Int.reduceNe, Int.reduceLT, Int.reduceLE, Nat.reduceEqDiff, Nat.reduceAdd, Nat.reduceMul, Nat.reduceLT, Nat.reduceLeDiff, Nat.reduceSub, reduceCtorEq, reduceIte, Int.reduceToNat, beq_self_eq_true, Bool.and_self, List.take_length, decide_true, Bool.not_true, Bool.not_false, hq2]
    refine hNg _ (VWp.keep [0,6] [] ?_); simp only [go_sem, Int.reduceEq, Int.reduceNe, Int.reduceLT, Int.reduceLE, Nat.reduceEqDiff, Nat.reduceAdd, Nat.reduceMul, Nat.reduceLT, Nat.reduceLeDiff, Nat.reduceSub, reduceCtorEq, reduceIte, Int.reduceToNat, beq_self_eq_true, Bool.and_self, List.take_length, decide_true, Bool.not_true, Bool.not_false]
    have e1 : decide ((q : Int) = 0) = decide (q = 0) := by apply decide_eq_decide.2; omega
    have e2 : decide ((q : Int) < (s.length : Int)) = decide (q < s.length) := by apply decide_eq_decide.2; omega
    refine vwp_seq_k fun No hNo => ?_
    refine vwp_seq_k fun Np hNp => vreg tt_ok hF rfl ?_; simp only [go_sem, Int.reduceEq, Int.reduceNe, Int.reduceLT, Int.reduceLE, Nat.reduceEqDiff, Nat.reduceAdd, Nat.reduceMul, Nat.reduceLT, Nat.reduceLeDiff, Nat.reduceSub, reduceCtorEq, reduceIte, Int.reduceToNat, beq_self_eq_true, Bool.and_self, List.take_length, decide_true, Bool.not_true, Bool.not_false, e1]
    refine hNp _ (VWp.keep [0,6,42] [] ?_); simp only [go_sem, Int.reduceEq, Int.reduceNe, Int.reduceLT, Int.reduceLE, Nat.reduceEqDiff, Nat.reduceAdd, Nat.reduceMul, Nat.reduceLT, Nat.reduceLeDiff, Nat.reduceSub, reduceCtorEq, reduceIte, Int.reduceToNat, beq_self_eq_true, Bool.and_self, List.take_length, decide_true, Bool.not_true, Bool.not_false]
    refine vif rfl ⟨fun ht => ?_, fun hf0 => ?_⟩
    · rw [if_pos (of_decide_eq_true ht)] at htx
      subst htx
      refine vwp_seq_k fun Nq hNq => vreg tt_ok hF rfl ?_; simp only [go_sem, Int.reduceEq, Int.reduceNe, Int.reduceLT, Int.reduceLE, Nat.reduceEqDiff, Nat.reduceAdd, Nat.reduceMul, Nat.reduceLT, Nat.reduceLeDiff, Nat.reduceSub, reduceCtorEq, reduceIte, Int.reduceToNat, beq_self_eq_true, Bool.and_self, List.take_length, decide_true, Bool.not_true, Bool.not_false]
      refine hNq _ (VWp.keep [2,3] [] ?_); simp only [go_sem, Int.reduceEq, Int.reduceNe, Int.reduceLT, Int.reduceLE, Nat.reduceEqDiff, Nat.reduceAdd, Nat.reduceMul, Nat.reduceLT, Nat.reduceLeDiff, Nat.reduceSub, reduceCtorEq, reduceIte, Int.reduceToNat, beq_self_eq_true, Bool.and_self, List.take_length, decide_true, Bool.not_true, Bool.not_false]
      refine vwp_ret ?_
      simp only [go_sem, Int.reduceEq, Int.reduceNe, Int.reduceLT, Int.reduceLE, Nat.reduceEqDiff, Nat.reduceAdd, Nat.reduceMul, Nat.reduceLT, Nat.reduceLeDiff, Nat.reduceSub, reduceCtorEq, reduceIte, Int.reduceToNat, beq_self_eq_true, Bool.and_self, List.take_length, decide_true, Bool.not_true, Bool.not_false]
      exact LeV.refl _
    have hq0 : ¬ q = 0 := of_decide_eq_false hf0
    rw [if_neg hq0] at htx
    refine vwp_skip (hNo _ ?_)
    refine vwp_seq_k fun Nr hNr => ?_
    refine vwp_seq_k fun Ns hNs => vreg tt_ok hF rfl ?_; simp only [go_sem, Int.reduceEq, Int.reduceNe, Int.reduceLT, Int.reduceLE, Nat.reduceEqDiff, Nat.reduceAdd, Nat.reduceMul, Nat.reduceLT, Nat.reduceLeDiff, Nat.reduceSub, reduceCtorEq, reduceIte, Int.reduceToNat, beq_self_eq_true, Bool.and_self, List.take_length, decide_true, Bool.not_true, Bool.not_false, e2]
    refine hNs _ (VWp.keep [0,47] [] ?_); simp only [go_sem, Int.reduceEq, Int.reduceNe, Int.reduceLT, Int.reduceLE, Nat.reduceEqDiff, Nat.reduceAdd, Nat.reduceMul, Nat.reduceLT, Nat.reduceLeDiff, Nat.reduceSub, reduceCtorEq, reduceIte, Int.reduceToNat, beq_self_eq_true, Bool.and_self, List.take_length, decide_true, Bool.not_true, Bool.not_false]
    refine vif rfl ⟨fun ht => ?_, fun hf1 => ?_⟩
    · rw [if_pos (of_decide_eq_true ht)] at htx
      subst htx
      refine vwp_seq_k fun Nt hNt => vreg tt_ok hF rfl ?_; simp only [go_sem, Int.reduceEq, Int.reduceNe, Int.reduceLT, Int.reduceLE, Nat.reduceEqDiff, Nat.reduceAdd, Nat.reduceMul, Nat.reduceLT, Nat.reduceLeDiff, Nat.reduceSub, reduceCtorEq, reduceIte, Int.reduceToNat, beq_self_eq_true, Bool.and_self, List.take_length, decide_true, Bool.not_true, Bool.not_false]
      refine hNt _ (VWp.keep [2,3] [] ?_); simp only [go_sem, Int.reduceEq, Int.reduceNe, Int.reduceLT, Int.reduceLE, Nat.reduceEqDiff, Nat.reduceAdd, Nat.reduceMul, Nat.reduceLT, Nat.reduceLeDiff, Nat.reduceSub, reduceCtorEq, reduceIte, Int.reduceToNat, beq_self_eq_true, Bool.and_self, List.take_length, decide_true, Bool.not_true, Bool.not_false]
      refine vwp_ret ?_
      simp only [go_sem, Int.reduceEq, Int.reduceNe, Int.reduceLT, Int.reduceLE, Nat.reduceEqDiff, Nat.reduceAdd, Nat.reduceMul, Nat.reduceLT, Nat.reduceLeDiff, Nat.reduceSub, reduceCtorEq, reduceIte, Int.reduceToNat, beq_self_eq_true, Bool.and_self, List.take_length, decide_true, Bool.not_true, Bool.not_false]
      exact LeV.refl _
    have hq1 : ¬ q < s.length := of_decide_eq_false hf1
    rw [if_neg hq1] at htx
    have hne : s ≠ [] := fun e => by rw [e] at hcnt; simp at hcnt; omega
    obtain ⟨U0, hU0, hin0⟩ := inQ_of hbal (by omega) hne
    have hpos : 0 < s.length := List.length_pos_iff.2 hne
    have hd1 : s.drop 1 = U0 := by rw [hU0]; rfl
    have hU0n := inQ_ne hin0
    have h2l : 2 ≤ s.length := by rw [hU0]; have := List.length_pos_iff.2 hU0n; simp; omega
    have hw : IntKind.i64.wrap ((s.length : Int) - 1) = ((s.length - 1 : Nat) : Int) := by rw [wrap_i64 (by omega) (by omega)]; omega
    obtain ⟨C, hC⟩ : ∃ C, unqJ ((s.take (s.length - 1)).drop 1) = C := ⟨_, rfl⟩
    rw [hC] at htx
    subst htx
    refine vwp_skip (hNr _ ?_)
    refine vwp_seq_k fun Nu hNu => vreg tt_ok hF rfl ?_; simp only [go_sem, Int.reduceEq, Int.reduceNe, Int.reduceLT, Int.reduceLE, Nat.reduceEqDiff, Nat.reduceAdd, Nat.reduceMul, Nat.reduceLT, Nat.reduceLeDiff, Nat.reduceSub, reduceCtorEq, reduceIte, Int.reduceToNat, beq_self_eq_true, Bool.and_self, List.take_length, decide_true, Bool.not_true, Bool.not_false]
    refine hNu _ (VWp.keep [0,8] [] ?_); simp only [go_sem, Int.reduceEq, Int.reduceNe, Int.reduceLT, Int.reduceLE, Nat.reduceEqDiff, Nat.reduceAdd, Nat.reduceMul, Nat.reduceLT, Nat.reduceLeDiff, Nat.reduceSub, reduceCtorEq, reduceIte, Int.reduceToNat, beq_self_eq_true, Bool.and_self, List.take_length, decide_true, Bool.not_true, Bool.not_false]
    refine vwp_seq_k fun Nv hNv => ?_
    refine vwp_seq_k fun Nw hNw => vreg tt_ok hF rfl ?_; simp only [go_sem, Int.reduceEq, Int.reduceNe, Int.reduceLT, Int.reduceLE, Nat.reduceEqDiff, Nat.reduceAdd, Nat.reduceMul, Nat.reduceLT, Nat.reduceLeDiff, Nat.reduceSub, reduceCtorEq, reduceIte, Int.reduceToNat, beq_self_eq_true, Bool.and_self, List.take_length, decide_true, Bool.not_true, Bool.not_false]
    refine hNw _ (VWp.keep [0,8,9] [] ?_); simp only [go_sem, Int.reduceEq, Int.reduceNe, Int.reduceLT, Int.reduceLE, Nat.reduceEqDiff, Nat.reduceAdd, Nat.reduceMul, Nat.reduceLT, Nat.reduceLeDiff, Nat.reduceSub, reduceCtorEq, reduceIte, Int.reduceToNat, beq_self_eq_true, Bool.and_self, List.take_length, decide_true, Bool.not_true, Bool.not_false]
    refine VWp.adopt 500000 1 5 (x := 8) rfl rfl (by decide) ?_ (closed_of (by simp only [go_sem, Int.reduceEq, Int.reduceNe, Int.reduceLT, Int.reduceLE, Nat.reduceEqDiff, Nat.reduceAdd, Nat.reduceMul, Nat.reduceLT, Nat.reduceLeDiff, Nat.reduceSub, reduceCtorEq, reduceIte, Int.reduceToNat, beq_self_eq_true, Bool.and_self, List.take_length, decide_true, Bool.not_true, Bool.not_false]) (by simp only [go_sem, Int.reduceEq, Int.reduceNe, Int.reduceLT, Int.reduceLE, Nat.reduceEqDiff, Nat.reduceAdd, Nat.reduceMul, Nat.reduceLT, Nat.reduceLeDiff, Nat.reduceSub, reduceCtorEq, reduceIte, Int.reduceToNat, beq_self_eq_true, Bool.and_self, List.take_length, decide_true, Bool.not_true, Bool.not_false]))
    refine VWp.keep [0,8,9] [500000] ?_; simp only [go_sem, Int.reduceEq, Int.reduceNe, Int.reduceLT, Int.reduceLE, Nat.reduceEqDiff, Nat.reduceAdd, Nat.reduceMul, Nat.reduceLT, Nat.reduceLeDiff, Nat.reduceSub, reduceCtorEq, reduceIte, Int.reduceToNat, beq_self_eq_true, Bool.and_self, List.take_length, decide_true, Bool.not_true, Bool.not_false]
    refine vwp_block (vloop (fun z : Nat × Jb => [(0, .str s), (8, .own 500000 z.2.length), (9, .int .i64 (z.1 : Int))]) (fun z => [(500000, .arr 1 5 (z.2.map fun c => [V.int .u8 ((c.toNat : Nat) : Int)]))])
      (fun z => 1 ≤ z.1 ∧ z.1 ≤ s.length - 1 ∧ z.2.length ≤ z.1 ∧ inQ (s.drop z.1) ∧ z.2 ++ unqJ ((s.take (s.length - 1)).drop z.1) = C) (fun z => s.length - z.1) (1, []) ⟨Nat.le_refl _, by show 1 ≤ s.length - 1; omega, Nat.zero_le _, by show inQ (s.drop 1); rw [hd1]; exact hin0, by simpa using hC⟩ (by simp only [go_sem, Int.reduceEq, Int.reduceNe, Int.reduceLT, Int.reduceLE, Nat.reduceEqDiff, Nat.reduceAdd, Nat.reduceMul, Nat.reduceLT, Nat.reduceLeDiff, Nat.reduceSub, reduceCtorEq, reduceIte, Int.reduceToNat, beq_self_eq_true, Bool.and_self, List.take_length, decide_true, Bool.not_true, Bool.not_false]) ?_)
    rintro ⟨i, out⟩ ⟨i1, i2, i3, i4, i5⟩
    have i1 : 1 ≤ i := i1
    have i2 : i ≤ s.length - 1 := i2
    have i3 : out.length ≤ i := i3
    have i4 : inQ (s.drop i) := i4
    have i5 : out ++ unqJ ((s.take (s.length - 1)).drop i) = C := i5
    try dsimp only
    refine vwp_seq_k fun Nx hNx => ?_
    refine vwp_seq_k fun Ny hNy => vreg tt_ok hF rfl ?_; simp only [go_sem, Int.reduceEq, Int.reduceNe, Int.reduceLT, Int.reduceLE, Nat.reduceEqDiff, Nat.reduceAdd, Nat.reduceMul, Nat.reduceLT, Nat.reduceLeDiff, Nat.reduceSub, reduceCtorEq, reduceIte, Int.reduceToNat, beq_self_eq_true, Bool.and_self, List.take_length, decide_true, Bool.not_true, Bool.not_false, hw]
    refine hNy _ (VWp.keep [0,8,9,52] [500000] ?_); simp only [go_sem, Int.reduceEq, Int.reduceNe, Int.reduceLT, Int.reduceLE, Nat.reduceEqDiff, Nat.reduceAdd, Nat.reduceMul, Nat.reduceLT, Nat.reduceLeDiff, Nat.reduceSub, reduceCtorEq, reduceIte, Int.reduceToNat, beq_self_eq_true, Bool.and_self, List.take_length, decide_true, Bool.not_true, Bool.not_false]
    refine vif rfl ⟨fun ht => ?_, fun hf => ?_⟩
    · have hlt : i < s.length - 1 := by have := of_decide_eq_true ht; omega
      have hpm : (0 : Int) ≤ (i : Int) ∧ (i : Int) < (s.length : Int) := ⟨by omega, by omega⟩
      have e3 : decide ((((s.getD i 0).toNat : Nat) : Int) = (39 : Int)) = (s.getD i 0 == 39) := u8eq 39 _
      rw [drop_at s i (by omega)] at i4
      rw [in_take s i hlt] at i5
      refine vwp_skip (hNx _ ?_)
      refine vwp_seq_k fun Nz hNz => ?_
      refine vwp_block ?_
      refine vwp_seq_k fun Naa hNaa => vreg tt_ok hF rfl ?_; simp only [go_sem, Int.reduceEq, Int.reduceNe, Int.reduceLT, Int.reduceLE, Nat.reduceEqDiff, Nat.reduceAdd, Nat.reduceMul, Nat.reduceLT, Nat.reduceLeDiff, Nat.reduceSub, reduceCtorEq, reduceIte, Int.reduceToNat, beq_self_eq_true, Bool.and_self, List.take_length, decide_true, Bool.not_true, Bool.not_false, hpm]
      refine ⟨by omega, ?_⟩
      refine hNaa _ (VWp.keep [0,8,9] [500000] ?_); simp only [go_sem, Int.reduceEq, Int.reduceNe, Int.reduceLT, Int.reduceLE, Nat.reduceEqDiff, Nat.reduceAdd, Nat.reduceMul, Nat.reduceLT, Nat.reduceLeDiff, Nat.reduceSub, reduceCtorEq, reduceIte, Int.reduceToNat, beq_self_eq_true, Bool.and_self, List.take_length, decide_true, Bool.not_true, Bool.not_false]
      refine vwp_seq_k fun Nab hNab => vreg tt_ok hF rfl ?_; simp only [go_sem, Int.reduceEq, Int.reduceNe, Int.reduceLT, Int.reduceLE, Nat.reduceEqDiff, Nat.reduceAdd, Nat.reduceMul, Nat.reduceLT, Nat.reduceLeDiff, Nat.reduceSub, reduceCtorEq, reduceIte, Int.reduceToNat, beq_self_eq_true, Bool.and_self, List.take_length, decide_true, Bool.not_true, Bool.not_false, hpm, e3]
      refine hNab _ (VWp.keep [0,8,9,64] [500000] ?_); simp only [go_sem, Int.reduceEq, Int.reduceNe, Int.reduceLT, Int.reduceLE, Nat.reduceEqDiff, Nat.reduceAdd, Nat.reduceMul, Nat.reduceLT, Nat.reduceLeDiff, Nat.reduceSub, reduceCtorEq, reduceIte, Int.reduceToNat, beq_self_eq_true, Bool.and_self, List.take_length, decide_true, Bool.not_true, Bool.not_false]
      refine vif rfl ⟨fun ht => ?_, fun hf => ?_⟩
      · have hc : s.getD i 0 = 39 := by simpa using ht
        rw [hc] at i4 i5
        obtain ⟨U, hU, hinU⟩ := inQ_two i4 (fun e => by have := congrArg List.length e; rw [List.length_drop] at this; simp at this; omega)
        have hU2 : s.drop (i + 2) = U := by
          have := congrArg (List.drop 1) hU
          rw [List.drop_drop] at this
          simpa using this
        have hlU := List.length_pos_iff.2 (inQ_ne hinU)
        rw [← hU2, List.length_drop] at hlU
        have hc1 : s.getD (i + 1) 0 = 39 := by
          rw [drop_at s (i + 1) (by omega)] at hU
          exact (List.cons.inj hU).1
        rw [in_take s (i + 1) (by omega), hc1, unq_two] at i5
        refine vreg tt_ok hF rfl ?_; simp only [go_sem, Int.reduceEq, Int.reduceNe, Int.reduceLT, Int.reduceLE, Nat.reduceEqDiff, Nat.reduceAdd, Nat.reduceMul, Nat.reduceLT, Nat.reduceLeDiff, Nat.reduceSub, reduceCtorEq, reduceIte, Int.reduceToNat, beq_self_eq_true, Bool.and_self, List.take_length, decide_true, Bool.not_true, Bool.not_false]
        rw [wrap_i64 (by omega) (by omega)]
        refine hNz _ (VWp.keep [0,8,9] [500000] ?_); simp only [go_sem, Int.reduceEq, Int.reduceNe, Int.reduceLT, Int.reduceLE, Nat.reduceEqDiff, Nat.reduceAdd, Nat.reduceMul, Nat.reduceLT, Nat.reduceLeDiff, Nat.reduceSub, reduceCtorEq, reduceIte, Int.reduceToNat, beq_self_eq_true, Bool.and_self, List.take_length, decide_true, Bool.not_true, Bool.not_false]
        refine vreg tt_ok hF rfl ?_; simp only [go_sem, Int.reduceEq, Int.reduceNe, Int.reduceLT, Int.reduceLE, Nat.reduceEqDiff, Nat.reduceAdd, Nat.reduceMul, Nat.reduceLT, Nat.reduceLeDiff, Nat.reduceSub, reduceCtorEq, reduceIte, Int.reduceToNat, beq_self_eq_true, Bool.and_self, List.take_length, decide_true, Bool.not_true, Bool.not_false]
        rw [wrap_i64 (by omega) (by omega)]
        refine ⟨(i + 2, out ++ [39]), ⟨by simp only; omega, by simp only; omega, by simp; omega, by show inQ (s.drop (i + 2)); rw [hU2]; exact hinU, by show out ++ [39] ++ unqJ ((s.take (s.length - 1)).drop (i + 2)) = C; rw [← i5]; simp⟩, by simp only; omega, by rw [hc]; simp; omega⟩
      · have hc : s.getD i 0 ≠ 39 := by simpa using hf
        rw [unq_cons _ hc] at i5
        refine vwp_skip (hNz _ ?_)
        refine vreg tt_ok hF rfl ?_; simp only [go_sem, Int.reduceEq, Int.reduceNe, Int.reduceLT, Int.reduceLE, Nat.reduceEqDiff, Nat.reduceAdd, Nat.reduceMul, Nat.reduceLT, Nat.reduceLeDiff, Nat.reduceSub, reduceCtorEq, reduceIte, Int.reduceToNat, beq_self_eq_true, Bool.and_self, List.take_length, decide_true, Bool.not_true, Bool.not_false]
        rw [wrap_i64 (by omega) (by omega)]
        exact ⟨(i + 1, out ++ [s.getD i 0]), ⟨by simp only; omega, by simp only; omega, by simp; omega, inQ_step i4 hc, by show out ++ [s.getD i 0] ++ unqJ ((s.take (s.length - 1)).drop (i + 1)) = C; rw [← i5]; simp⟩, by simp only; omega, by simp⟩
    · have hi : i = s.length - 1 := by have := of_decide_eq_false hf; omega
      subst hi
      have hnil : (s.take (s.length - 1)).drop (s.length - 1) = [] := by rw [List.drop_eq_nil_iff, List.length_take]; omega
      rw [hnil] at i5
      have i5 : out ++ [] = C := i5
      rw [List.append_nil] at i5
      subst i5
      have htb := toBytes_bytesR out
      rw [← byte_rows] at htb
      refine vwp_exit ?_
      simp only [go_sem, Int.reduceEq, Int.reduceNe, Int.reduceLT, Int.reduceLE, Nat.reduceEqDiff, Nat.reduceAdd, Nat.reduceMul, Nat.reduceLT, Nat.reduceLeDiff, Nat.reduceSub, reduceCtorEq, reduceIte, Int.reduceToNat, beq_self_eq_true, Bool.and_self, List.take_length, decide_true, Bool.not_true, Bool.not_false]
      refine hNv _ (VWp.keep [8] [500000] ?_); simp only [go_sem, Int.reduceEq, Int.reduceNe, Int.reduceLT, Int.reduceLE, Nat.reduceEqDiff, Nat.reduceAdd, Nat.reduceMul, Nat.reduceLT, Nat.reduceLeDiff, Nat.reduceSub, reduceCtorEq, reduceIte, Int.reduceToNat, beq_self_eq_true, Bool.and_self, List.take_length, decide_true, Bool.not_true, Bool.not_false]
      refine vwp_seq_k fun Nac hNac => vreg tt_ok hF rfl ?_; simp only [go_sem, Int.reduceEq, Int.reduceNe, Int.reduceLT, Int.reduceLE, Nat.reduceEqDiff, Nat.reduceAdd, Nat.reduceMul, Nat.reduceLT, Nat.reduceLeDiff, Nat.reduceSub, reduceCtorEq, reduceIte, Int.reduceToNat, beq_self_eq_true, Bool.and_self, List.take_length, decide_true, Bool.not_true, Bool.not_false, htb]
      first | (refine ⟨by omega, ?_⟩) | skip
      refine hNac _ (VWp.keep [2,3] [] ?_); simp only [go_sem, Int.reduceEq, Int.reduceNe, Int.reduceLT, Int.reduceLE, Nat.reduceEqDiff, Nat.reduceAdd, Nat.reduceMul, Nat.reduceLT, Nat.reduceLeDiff, Nat.reduceSub, reduceCtorEq, reduceIte, Int.reduceToNat, beq_self_eq_true, Bool.and_self, List.take_length, decide_true, Bool.not_true, Bool.not_false]
      refine vwp_ret ?_
      simp only [go_sem, Int.reduceEq, Int.reduceNe, Int.reduceLT, Int.reduceLE, Nat.reduceEqDiff, Nat.reduceAdd, Nat.reduceMul, Nat.reduceLT, Nat.reduceLeDiff, Nat.reduceSub, reduceCtorEq, reduceIte, Int.reduceToNat, beq_self_eq_true, Bool.and_self, List.take_length, decide_true, Bool.not_true, Bool.not_false]
      exact LeV.refl _
set_option maxHeartbeats 8000000 in
set_option maxRecDepth 4000 in
theorem rGet_spec (s : StmJ) (key : Jb) (hl : s.params.length ≤ 1000000000) : Spec Tryd.prog 23 [stmV s, .str key] (getV s key) := by
  obtain ⟨RV, hRV⟩ : ∃ R, getV s key = R := ⟨_, rfl⟩
  have hrefs : RV.refs = [] := by rw [← hRV]; exact getV_refs s key
  obtain ⟨line, name, op, params, data⟩ := s
  have hl : params.length ≤ 1000000000 := hl
  have hRV : (match params.find? (fun p => p.key == key) with
    | some p => .tup [prmV p, .bool true]
    | none => .tup [prmV noPrm, .bool false]) = RV := hRV
  rw [show getV ⟨line, name, op, params, data⟩ key = RV from hRV]
  refine spec_of tt_ok Tryd.func23 rfl (by decide) Tryd.ntmps23 (congrArg Array.toList Tryd.results23) (by simp) (by decide) hrefs rfl (fun F hF => ?_)
  refine vwp_seq_k fun Na hNa => vreg tt_ok hF rfl ?_; simp only [go_sem, Int.reduceEq, Int.reduceNe, Int.reduceLT, Int.reduceLE, Nat.reduceEqDiff, Nat.reduceAdd, Nat.reduceMul, Nat.reduceLT, Nat.reduceLeDiff, Nat.reduceSub, reduceCtorEq, reduceIte, Int.reduceToNat, beq_self_eq_true, Bool.and_self, List.take_length, decide_true, Bool.not_true, Bool.not_false]
  refine hNa _ (VWp.keep [1,2,4] [2,4] ?_); simp only [go_sem, Int.reduceEq, Int.reduceNe, Int.reduceLT, Int.reduceLE, Nat.reduceEqDiff, Nat.reduceAdd, Nat.reduceMul, Nat.reduceLT, Nat.reduceLeDiff, Nat.reduceSub, reduceCtorEq, reduceIte, Int.reduceToNat, beq_self_eq_true, Bool.and_self, List.take_length, decide_true, Bool.not_true, Bool.not_false]
  refine vwp_seq_k fun Nb hNb => ?_
  refine vwp_seq_k fun Nc hNc => vreg tt_ok hF rfl ?_; simp only [go_sem, Int.reduceEq, Int.reduceNe, Int.reduceLT, Int.reduceLE, Nat.reduceEqDiff, Nat.reduceAdd, Nat.reduceMul, Nat.reduceLT, Nat.reduceLeDiff, Nat.reduceSub, reduceCtorEq, reduceIte, Int.reduceToNat, beq_self_eq_true, Bool.and_self, List.take_length, decide_true, Bool.not_true, Bool.not_false]
  refine hNc _ (VWp.keep [1,2,4,6] [2,4] ?_); simp only [go_sem, Int.reduceEq, Int.reduceNe, Int.reduceLT, Int.reduceLE, Nat.reduceEqDiff, Nat.reduceAdd, Nat.reduceMul, Nat.reduceLT, Nat.reduceLeDiff, Nat.reduceSub, reduceCtorEq, reduceIte, Int.reduceToNat, beq_self_eq_true, Bool.and_self, List.take_length, decide_true, Bool.not_true, Bool.not_false]
  refine vwp_block (vloop (fun m : Nat => [(1, .str key), (2, .ptr 2 0), (4, .ptr 4 0), (6, .int .i64 (m : Int))]) (fun _ => [(2, .box 33 [.int .i64 line, .str name, .str op, prmsV params, strsV data]), (4, .box 42 [.str [], .str [], .nil])])
    (fun m => m ≤ params.length ∧ params.find? (fun p => p.key == key) = (params.drop m).find? (fun p => p.key == key)) (fun m => params.length - m) 0 ⟨Nat.zero_le _, by simp⟩ (by simp only [go_sem, Int.reduceEq, Int.reduceNe, Int.reduceLT, Int.reduceLE, Nat.reduceEqDiff, Nat.reduceAdd, Nat.reduceMul, Nat.reduceLT, Nat.reduceLeDiff, Nat.reduceSub, reduceCtorEq, reduceIte, Int.reduceToNat, beq_self_eq_true, Bool.and_self, List.take_length, decide_true, Bool.not_true, Bool.not_false, List.length_map]) ?_)
  rintro m ⟨m1, m2⟩
  refine vwp_seq_k fun Nd hNd => ?_
  refine vwp_seq_k fun Ne hNe => vreg tt_ok hF rfl ?_; simp only [go_sem, Int.reduceEq, Int.reduceNe, Int.reduceLT, Int.reduceLE, Nat.reduceEqDiff, Nat.reduceAdd, Nat.reduceMul, Nat.reduceLT, Nat.reduceLeDiff, Nat.reduceSub, reduceCtorEq, reduceIte, Int.reduceToNat, beq_self_eq_true, Bool.and_self, List.take_length, decide_true, Bool.not_true, Bool.not_false, List.length_map]
  refine hNe _ (VWp.keep [1,2,4,6,11] [2,4] ?_); simp only [go_sem, Int.reduceEq, Int.reduceNe, Int.reduceLT, Int.reduceLE, Nat.reduceEqDiff, Nat.reduceAdd, Nat.reduceMul, Nat.reduceLT, Nat.reduceLeDiff, Nat.reduceSub, reduceCtorEq, reduceIte, Int.reduceToNat, beq_self_eq_true, Bool.and_self, List.take_length, decide_true, Bool.not_true, Bool.not_false]
  refine vif rfl ⟨fun ht => ?_, fun hf => ?_⟩
  · have hlt : m < params.length := by have := of_decide_eq_true ht; omega
    obtain ⟨p, hg⟩ : ∃ p, params[m]? = some p := ⟨_, List.getElem?_eq_getElem hlt⟩
    have hrow : (params.map prmC).getD m [] = [.str p.key, .str p.value, .sl 1 (p.parts.map fun w => [V.str w])] := by simp [hg, prmC, strsV]
    have hpi : (0 : Int) ≤ (m : Int) ∧ (m : Int) < (params.length : Int) := ⟨by omega, by omega⟩
    have hd : params.drop m = p :: params.drop (m + 1) := by
      obtain ⟨h1, h2⟩ := List.getElem?_eq_some_iff.1 hg
      rw [List.drop_eq_getElem_cons h1, h2]
    rw [hd, List.find?_cons] at m2
    have e1 := streq p.key key
    refine vwp_skip (hNd _ ?_)
    refine vwp_seq_k fun Nf hNf => ?_
    refine vwp_block ?_
    generalize (p.key == key) = b at e1 m2
    refine vwp_seq_k fun Ng hNg => vreg tt_ok hF rfl ?_; simp only [go_sem, Int.reduceEq, Int.reduceNe, Int.reduceLT, Int.reduceLE, Nat.reduceEqDiff, Nat.reduceAdd, Nat.reduceMul, Nat.reduceLT, Nat.reduceLeDiff, Nat.reduceSub, reduceCtorEq, reduceIte, Int.reduceToNat, beq_self_eq_true, Bool.and_self, List.take_length, decide_true, Bool.not_true, Bool.not_false, List.length_map, hpi, hrow, e1]
    refine hNg _ (VWp.keep [1,2,4,6,21] [2,4] ?_); simp only [go_sem, Int.reduceEq, Int.reduceNe, Int.reduceLT, Int.reduceLE, Nat.reduceEqDiff, Nat.reduceAdd, Nat.reduceMul, Nat.reduceLT, Nat.reduceLeDiff, Nat.reduceSub, reduceCtorEq, reduceIte, Int.reduceToNat, beq_self_eq_true, Bool.and_self, List.take_length, decide_true, Bool.not_true, Bool.not_false]
    cases b
    · refine vif rfl ⟨fun ht => (by cases ht), fun hf => ?_⟩
      refine vwp_skip (hNf _ ?_)
      refine vreg tt_ok hF rfl ?_; simp only [go_sem, Int.reduceEq, Int.reduceNe, Int.reduceLT, Int.reduceLE, Nat.reduceEqDiff, Nat.reduceAdd, Nat.reduceMul, Nat.reduceLT, Nat.reduceLeDiff, Nat.reduceSub, reduceCtorEq, reduceIte, Int.reduceToNat, beq_self_eq_true, Bool.and_self, List.take_length, decide_true, Bool.not_true, Bool.not_false]
      rw [wrap_i64 (by omega) (by omega)]
      exact ⟨m + 1, ⟨by omega, m2⟩, by omega, by simp [prmsV, strsV]⟩
    · refine vif rfl ⟨fun ht => ?_, fun hf => (by cases hf)⟩
      rw [m2] at hRV
      have hRV : V.tup [prmV p, .bool true] = RV := hRV
      refine vwp_seq_k fun Nh hNh => vreg tt_ok hF rfl ?_; simp only [go_sem, Int.reduceEq, Int.reduceNe, Int.reduceLT, Int.reduceLE, Nat.reduceEqDiff, Nat.reduceAdd, Nat.reduceMul, Nat.reduceLT, Nat.reduceLeDiff, Nat.reduceSub, reduceCtorEq, reduceIte, Int.reduceToNat, beq_self_eq_true, Bool.and_self, List.take_length, decide_true, Bool.not_true, Bool.not_false, List.length_map, hpi, hrow]
      refine hNh _ (VWp.keep [4,5] [4] ?_); simp only [go_sem, Int.reduceEq, Int.reduceNe, Int.reduceLT, Int.reduceLE, Nat.reduceEqDiff, Nat.reduceAdd, Nat.reduceMul, Nat.reduceLT, Nat.reduceLeDiff, Nat.reduceSub, reduceCtorEq, reduceIte, Int.reduceToNat, beq_self_eq_true, Bool.and_self, List.take_length, decide_true, Bool.not_true, Bool.not_false]
      refine vwp_ret ?_
      simp only [go_sem, Int.reduceEq, Int.reduceNe, Int.reduceLT, Int.reduceLE, Nat.reduceEqDiff, Nat.reduceAdd, Nat.reduceMul, Nat.reduceLT, Nat.reduceLeDiff, Nat.reduceSub, reduceCtorEq, reduceIte, Int.reduceToNat, beq_self_eq_true, Bool.and_self, List.take_length, decide_true, Bool.not_true, Bool.not_false]
      rw [← hRV]
      exact LeV.of_eq (by simp [prmV, prmC, strsV])
  · have hm : m = params.length := by have := of_decide_eq_false hf; omega
    subst hm
    rw [List.drop_length] at m2
    rw [m2] at hRV
    have hRV : V.tup [prmV noPrm, .bool false] = RV := hRV
    refine vwp_exit ?_
    simp only [go_sem, Int.reduceEq, Int.reduceNe, Int.reduceLT, Int.reduceLE, Nat.reduceEqDiff, Nat.reduceAdd, Nat.reduceMul, Nat.reduceLT, Nat.reduceLeDiff, Nat.reduceSub, reduceCtorEq, reduceIte, Int.reduceToNat, beq_self_eq_true, Bool.and_self, List.take_length, decide_true, Bool.not_true, Bool.not_false]
    refine hNb _ (VWp.keepR [4] [4] tt_ok hF rfl fun Nk hNk => ?_); simp only [go_sem, Int.reduceEq, Int.reduceNe, Int.reduceLT, Int.reduceLE, Nat.reduceEqDiff, Nat.reduceAdd, Nat.reduceMul, Nat.reduceLT, Nat.reduceLeDiff, Nat.reduceSub, reduceCtorEq, reduceIte, Int.reduceToNat, beq_self_eq_true, Bool.and_self, List.take_length, decide_true, Bool.not_true, Bool.not_false]
    refine hNk _ (VWp.keep [4,5] [4] ?_); simp only [go_sem, Int.reduceEq, Int.reduceNe, Int.reduceLT, Int.reduceLE, Nat.reduceEqDiff, Nat.reduceAdd, Nat.reduceMul, Nat.reduceLT, Nat.reduceLeDiff, Nat.reduceSub, reduceCtorEq, reduceIte, Int.reduceToNat, beq_self_eq_true, Bool.and_self, List.take_length, decide_true, Bool.not_true, Bool.not_false]
    refine vwp_ret ?_
    simp only [go_sem, Int.reduceEq, Int.reduceNe, Int.reduceLT, Int.reduceLE, Nat.reduceEqDiff, Nat.reduceAdd, Nat.reduceMul, Nat.reduceLT, Nat.reduceLeDiff, Nat.reduceSub, reduceCtorEq, reduceIte, Int.reduceToNat, beq_self_eq_true, Bool.and_self, List.take_length, decide_true, Bool.not_true, Bool.not_false]
    rw [← hRV]
    exact LeV.tup ⟨LeV.agg ⟨LeV.refl _, LeV.refl _, LeV.nil 1, trivial⟩, LeV.refl _, trivial⟩
end Go.Proofs.YtnaljgmcpagbbaaDoor

import Derived.Outline
import Derived.Test.YtnaljgmcpagbbaaDoorKK
import Derived.Test.YtnaljgmcpagbbaaDoorKP
/- JclParts. -/
-- SIMP: beq_self_eq_true, Bool.and_self, List.take_length, decide_true, Bool.not_true, Bool.not_false
namespace Go.Proofs.YtnaljgmcpagbbaaDoor
open Go.RowKit
set_option linter.unusedVariables false
set_option linter.unusedSimpArgs false
theorem strC_refs (l : List Jb) : V.refsL (l.map V.str) = [] := by
  induction l with
  | nil => rfl
  | cons a t ih => rw [List.map_cons]; show [] ++ V.refsL (t.map V.str) = []; rw [ih]; rfl
theorem strC_cvt {os : Nat → Option Ob} {f : Nat → Option Nat} (l : List Jb) : cvtL os f (l.map V.str) = some (l.map V.str) := by
  induction l with
  | nil => rfl
  | cons a t ih => rw [List.map_cons, cvtL, ih]; rfl
attribute [go_sem] strC_refs strC_cvt
theorem strC_flat (l : List Jb) : (l.map fun w => [V.str w]).flatten = l.map V.str := by
  induction l with
  | nil => rfl
  | cons a t ih => rw [List.map_cons, List.flatten_cons, ih]; rfl
set_option maxHeartbeats 8000000 in
set_option maxRecDepth 4000 in
theorem Get_hot (s : StmJ) (key : Jb) (p0 : PrmJ) (hget : getJ s key = some p0) (hne : p0.parts ≠ []) (hl : s.params.length ≤ 1000000000) (hp : ∀ p ∈ s.params, p.parts.length ≤ 1000000000) : SpecB Tryd.prog 22 [stmV s, .str key] []
    (.tup [.agg [.str p0.key, .str p0.value, .hs 21 p0.parts.length], .bool true]) [(21, .box 9 (p0.parts.map V.str))] := by
  obtain ⟨line, name, op, params, data⟩ := s
  have hl : params.length ≤ 1000000000 := hl
  have hp : ∀ p ∈ params, p.parts.length ≤ 1000000000 := hp
  have hget : params.find? (fun p => p.key == key) = some p0 := hget
  refine specB_of tt_ok Tryd.func22 rfl (by decide) Tryd.ntmps22 (congrArg Array.toList Tryd.results22) (by simp) (by decide) rfl (by simp only [go_sem, Int.reduceEq, Int.reduceNe, Int.reduceLT, Int.reduceLE, Nat.reduceEqDiff, Nat.reduceAdd, Nat.reduceMul, Nat.reduceLT, Nat.reduceLeDiff, Nat.reduceSub, reduceCtorEq, reduceIte, Int.reduceToNat, beq_self_eq_true, Bool.and_self, List.take_length, decide_true, Bool.not_true, Bool.not_false]) (fun F hF => ?_)
  refine vwp_seq_k fun Na hNa => vreg tt_ok hF rfl ?_; simp only [go_sem, Int.reduceEq, Int.reduceNe, Int.reduceLT, Int.reduceLE, Nat.reduceEqDiff, Nat.reduceAdd, Nat.reduceMul, Nat.reduceLT, Nat.reduceLeDiff, Nat.reduceSub, reduceCtorEq, reduceIte, Int.reduceToNat, beq_self_eq_true, Bool.and_self, List.take_length, decide_true, Bool.not_true, Bool.not_false]
  refine hNa _ (VWp.keep [1,2,4] [2,4] ?_); simp only [go_sem, Int.reduceEq, Int.reduceNe, Int.reduceLT, Int.reduceLE, Nat.reduceEqDiff, Nat.reduceAdd, Nat.reduceMul, Nat.reduceLT, Nat.reduceLeDiff, Nat.reduceSub, reduceCtorEq, reduceIte, Int.reduceToNat, beq_self_eq_true, Bool.and_self, List.take_length, decide_true, Bool.not_true, Bool.not_false]
  refine vwp_seq_k fun Nb hNb => ?_
  refine vwp_seq_k fun Nc hNc => vreg tt_ok hF rfl ?_; simp only [go_sem, Int.reduceEq, Int.reduceNe, Int.reduceLT, Int.reduceLE, Nat.reduceEqDiff, Nat.reduceAdd, Nat.reduceMul, Nat.reduceLT, Nat.reduceLeDiff, Nat.reduceSub, reduceCtorEq, reduceIte, Int.reduceToNat, beq_self_eq_true, Bool.and_self, List.take_length, decide_true, Bool.not_true, Bool.not_false]
  refine hNc _ (VWp.keep [1,4,9,10,11] [4] ?_); simp only [go_sem, Int.reduceEq, Int.reduceNe, Int.reduceLT, Int.reduceLE, Nat.reduceEqDiff, Nat.reduceAdd, Nat.reduceMul, Nat.reduceLT, Nat.reduceLeDiff, Nat.reduceSub, reduceCtorEq, reduceIte, Int.reduceToNat, beq_self_eq_true, Bool.and_self, List.take_length, decide_true, Bool.not_true, Bool.not_false]
  refine vwp_block (vloop (fun m : Nat => [(1, .str key), (4, .ptr 4 0), (9, prmsV params), (10, .int .i64 (params.length : Int)), (11, .int .i64 (m : Int))]) (fun _ => [(4, .box 42 [.str [], .str [], .nil])])
    (fun m => m ≤ params.length ∧ params.find? (fun p => p.key == key) = (params.drop m).find? (fun p => p.key == key)) (fun m => params.length - m) 0 ⟨Nat.zero_le _, by simp⟩ (by simp only [go_sem, Int.reduceEq, Int.reduceNe, Int.reduceLT, Int.reduceLE, Nat.reduceEqDiff, Nat.reduceAdd, Nat.reduceMul, Nat.reduceLT, Nat.reduceLeDiff, Nat.reduceSub, reduceCtorEq, reduceIte, Int.reduceToNat, beq_self_eq_true, Bool.and_self, List.take_length, decide_true, Bool.not_true, Bool.not_false, List.length_map]) ?_)
  rintro m ⟨m1, m2⟩
  refine vwp_seq_k fun Nd hNd => vreg tt_ok hF rfl ?_; simp only [go_sem, Int.reduceEq, Int.reduceNe, Int.reduceLT, Int.reduceLE, Nat.reduceEqDiff, Nat.reduceAdd, Nat.reduceMul, Nat.reduceLT, Nat.reduceLeDiff, Nat.reduceSub, reduceCtorEq, reduceIte, Int.reduceToNat, beq_self_eq_true, Bool.and_self, List.take_length, decide_true, Bool.not_true, Bool.not_false]
  refine hNd _ (VWp.keep [1,4,9,10,11,12] [4] ?_); simp only [go_sem, Int.reduceEq, Int.reduceNe, Int.reduceLT, Int.reduceLE, Nat.reduceEqDiff, Nat.reduceAdd, Nat.reduceMul, Nat.reduceLT, Nat.reduceLeDiff, Nat.reduceSub, reduceCtorEq, reduceIte, Int.reduceToNat, beq_self_eq_true, Bool.and_self, List.take_length, decide_true, Bool.not_true, Bool.not_false]
  refine vwp_seq_k fun Ne hNe => ?_
  refine vif rfl ⟨fun ht => ?_, fun hf => ?_⟩
  · have hlt : m < params.length := by have := of_decide_eq_true ht; omega
    obtain ⟨p, hg⟩ : ∃ p, params[m]? = some p := ⟨_, List.getElem?_eq_getElem hlt⟩
    have hpp := hp p (List.mem_of_getElem? hg)
    have hrow : (params.map prmC).getD m [] = [.str p.key, .str p.value, .sl 1 (p.parts.map fun w => [V.str w])] := by simp [hg, prmC, strsV]
    have hpi : (0 : Int) ≤ (m : Int) ∧ (m : Int) < (params.length : Int) := ⟨by omega, by omega⟩
    have hd : params.drop m = p :: params.drop (m + 1) := by
      obtain ⟨h1, h2⟩ := List.getElem?_eq_some_iff.1 hg
      rw [List.drop_eq_getElem_cons h1, h2]
    rw [hd, List.find?_cons] at m2
    have e1 := streq p.key key
    refine vwp_skip (hNe _ ?_)
    refine vwp_seq_k fun Nf hNf => ?_
    refine vwp_block ?_
    refine vwp_seq_k fun Ng hNg => vreg tt_ok hF rfl ?_; simp only [go_sem, Int.reduceEq, Int.reduceNe, Int.reduceLT, Int.reduceLE, Nat.reduceEqDiff, Nat.reduceAdd, Nat.reduceMul, Nat.reduceLT, Nat.reduceLeDiff, Nat.reduceSub, reduceCtorEq, reduceIte, Int.reduceToNat, beq_self_eq_true, Bool.and_self, List.take_length, decide_true, Bool.not_true, Bool.not_false, List.length_map, hpi, hrow]
    refine hNg _ (VWp.keep [1,4,7,9,10,11] [4,7] ?_); simp only [go_sem, Int.reduceEq, Int.reduceNe, Int.reduceLT, Int.reduceLE, Nat.reduceEqDiff, Nat.reduceAdd, Nat.reduceMul, Nat.reduceLT, Nat.reduceLeDiff, Nat.reduceSub, reduceCtorEq, reduceIte, Int.reduceToNat, beq_self_eq_true, Bool.and_self, List.take_length, decide_true, Bool.not_true, Bool.not_false]
    generalize (p.key == key) = b at e1 m2
    refine vwp_seq_k fun Nh hNh => vreg tt_ok hF rfl ?_; simp only [go_sem, Int.reduceEq, Int.reduceNe, Int.reduceLT, Int.reduceLE, Nat.reduceEqDiff, Nat.reduceAdd, Nat.reduceMul, Nat.reduceLT, Nat.reduceLeDiff, Nat.reduceSub, reduceCtorEq, reduceIte, Int.reduceToNat, beq_self_eq_true, Bool.and_self, List.take_length, decide_true, Bool.not_true, Bool.not_false, e1]
    refine hNh _ (VWp.keep [1,4,7,9,10,11,18] [4,7] ?_); simp only [go_sem, Int.reduceEq, Int.reduceNe, Int.reduceLT, Int.reduceLE, Nat.reduceEqDiff, Nat.reduceAdd, Nat.reduceMul, Nat.reduceLT, Nat.reduceLeDiff, Nat.reduceSub, reduceCtorEq, reduceIte, Int.reduceToNat, beq_self_eq_true, Bool.and_self, List.take_length, decide_true, Bool.not_true, Bool.not_false]
    cases b
    · refine vif rfl ⟨fun ht => (by cases ht), fun hf => ?_⟩
      refine vwp_skip (hNf _ ?_)
      refine vreg tt_ok hF rfl ?_; simp only [go_sem, Int.reduceEq, Int.reduceNe, Int.reduceLT, Int.reduceLE, Nat.reduceEqDiff, Nat.reduceAdd, Nat.reduceMul, Nat.reduceLT, Nat.reduceLeDiff, Nat.reduceSub, reduceCtorEq, reduceIte, Int.reduceToNat, beq_self_eq_true, Bool.and_self, List.take_length, decide_true, Bool.not_true, Bool.not_false]
      rw [wrap_i64 (by omega) (by omega)]
      exact ⟨m + 1, ⟨by omega, m2⟩, by omega, by simp⟩
    · refine vif rfl ⟨fun ht => ?_, fun hf => (by cases hf)⟩
      have hpe : p = p0 := by rw [m2] at hget; exact Option.some.inj hget
      subst hpe
      refine vwp_seq_k fun Ni hNi => vregH [21] tt_ok hF rfl ?_; simp only [go_sem, Int.reduceEq, Int.reduceNe, Int.reduceLT, Int.reduceLE, Nat.reduceEqDiff, Nat.reduceAdd, Nat.reduceMul, Nat.reduceLT, Nat.reduceLeDiff, Nat.reduceSub, reduceCtorEq, reduceIte, Int.reduceToNat, beq_self_eq_true, Bool.and_self, List.take_length, decide_true, Bool.not_true, Bool.not_false, List.length_map]
      refine ⟨⟨by omega, fun h => hne (List.map_eq_nil_iff.1 h)⟩, ?_⟩
      rw [strC_flat]
      refine hNi _ (VWp.keepR [4,7] [4,7,21] tt_ok hF rfl fun Nj hNj => ?_); simp only [go_sem, Int.reduceEq, Int.reduceNe, Int.reduceLT, Int.reduceLE, Nat.reduceEqDiff, Nat.reduceAdd, Nat.reduceMul, Nat.reduceLT, Nat.reduceLeDiff, Nat.reduceSub, reduceCtorEq, reduceIte, Int.reduceToNat, beq_self_eq_true, Bool.and_self, List.take_length, decide_true, Bool.not_true, Bool.not_false]
      refine hNj _ (VWp.keep [4,5] [4,21] ?_); simp only [go_sem, Int.reduceEq, Int.reduceNe, Int.reduceLT, Int.reduceLE, Nat.reduceEqDiff, Nat.reduceAdd, Nat.reduceMul, Nat.reduceLT, Nat.reduceLeDiff, Nat.reduceSub, reduceCtorEq, reduceIte, Int.reduceToNat, beq_self_eq_true, Bool.and_self, List.take_length, decide_true, Bool.not_true, Bool.not_false]
      refine vwp_ret ?_
      simp only [go_sem, Int.reduceEq, Int.reduceNe, Int.reduceLT, Int.reduceLE, Nat.reduceEqDiff, Nat.reduceAdd, Nat.reduceMul, Nat.reduceLT, Nat.reduceLeDiff, Nat.reduceSub, reduceCtorEq, reduceIte, Int.reduceToNat, beq_self_eq_true, Bool.and_self, List.take_length, decide_true, Bool.not_true, Bool.not_false]
      first | exact LeV.refl _ | exact ⟨LeV.refl _, by simp⟩
  · have hm : m = params.length := by have := of_decide_eq_false hf; omega
    subst hm
    rw [List.drop_length, hget] at m2
    cases m2
set_option maxHeartbeats 8000000 in
set_option maxRecDepth 4000 in
theorem SameTexts_hs (a : List Jb) (ha : a.length ≤ 1000000000) : SpecB Tryd.prog 20 [.hs 1000000 a.length, strsV a] [(1000000, .box 9 (a.map V.str))] (.bool true) [(1000000, .box 9 (a.map V.str))] := by
  refine specB_of tt_ok Tryd.func20 rfl (by decide) Tryd.ntmps20 (congrArg Array.toList Tryd.results20) (by simp) (by decide) rfl (by simp only [go_sem, Int.reduceEq, Int.reduceNe, Int.reduceLT, Int.reduceLE, Nat.reduceEqDiff, Nat.reduceAdd, Nat.reduceMul, Nat.reduceLT, Nat.reduceLeDiff, Nat.reduceSub, reduceCtorEq, reduceIte, Int.reduceToNat, beq_self_eq_true, Bool.and_self, List.take_length, decide_true, Bool.not_true, Bool.not_false]) (fun F hF => ?_)
  refine vwp_seq_k fun Na hNa => vreg tt_ok hF rfl ?_; simp only [go_sem, Int.reduceEq, Int.reduceNe, Int.reduceLT, Int.reduceLE, Nat.reduceEqDiff, Nat.reduceAdd, Nat.reduceMul, Nat.reduceLT, Nat.reduceLeDiff, Nat.reduceSub, reduceCtorEq, reduceIte, Int.reduceToNat, beq_self_eq_true, Bool.and_self, List.take_length, decide_true, Bool.not_true, Bool.not_false]
  refine hNa _ (VWp.keep [0,1] [1000000] ?_); simp only [go_sem, Int.reduceEq, Int.reduceNe, Int.reduceLT, Int.reduceLE, Nat.reduceEqDiff, Nat.reduceAdd, Nat.reduceMul, Nat.reduceLT, Nat.reduceLeDiff, Nat.reduceSub, reduceCtorEq, reduceIte, Int.reduceToNat, beq_self_eq_true, Bool.and_self, List.take_length, decide_true, Bool.not_true, Bool.not_false]
  refine vwp_seq_k fun Nb hNb => ?_
  refine vwp_seq_k fun Nc hNc => vreg tt_ok hF rfl ?_; simp only [go_sem, Int.reduceEq, Int.reduceNe, Int.reduceLT, Int.reduceLE, Nat.reduceEqDiff, Nat.reduceAdd, Nat.reduceMul, Nat.reduceLT, Nat.reduceLeDiff, Nat.reduceSub, reduceCtorEq, reduceIte, Int.reduceToNat, beq_self_eq_true, Bool.and_self, List.take_length, decide_true, Bool.not_true, Bool.not_false, List.length_map]
  refine hNc _ (VWp.keep [0,1,10] [1000000] ?_); simp only [go_sem, Int.reduceEq, Int.reduceNe, Int.reduceLT, Int.reduceLE, Nat.reduceEqDiff, Nat.reduceAdd, Nat.reduceMul, Nat.reduceLT, Nat.reduceLeDiff, Nat.reduceSub, reduceCtorEq, reduceIte, Int.reduceToNat, beq_self_eq_true, Bool.and_self, List.take_length, decide_true, Bool.not_true, Bool.not_false]
  refine vif rfl ⟨fun ht => (by cases ht), fun hf => ?_⟩
  refine vwp_skip (hNb _ ?_)
  refine vwp_seq_k fun Ne hNe => ?_
  refine vwp_seq_k fun Nf hNf => vreg tt_ok hF rfl ?_; simp only [go_sem, Int.reduceEq, Int.reduceNe, Int.reduceLT, Int.reduceLE, Nat.reduceEqDiff, Nat.reduceAdd, Nat.reduceMul, Nat.reduceLT, Nat.reduceLeDiff, Nat.reduceSub, reduceCtorEq, reduceIte, Int.reduceToNat, beq_self_eq_true, Bool.and_self, List.take_length, decide_true, Bool.not_true, Bool.not_false]
  refine hNf _ (VWp.keep [0,1,5] [1000000] ?_); simp only [go_sem, Int.reduceEq, Int.reduceNe, Int.reduceLT, Int.reduceLE, Nat.reduceEqDiff, Nat.reduceAdd, Nat.reduceMul, Nat.reduceLT, Nat.reduceLeDiff, Nat.reduceSub, reduceCtorEq, reduceIte, Int.reduceToNat, beq_self_eq_true, Bool.and_self, List.take_length, decide_true, Bool.not_true, Bool.not_false]
  refine vwp_block (vloop (fun m : Nat => [(0, .hs 1000000 a.length), (1, strsV a), (5, .int .i64 (m : Int))]) (fun _ => [(1000000, .box 9 (a.map V.str))]) (fun m => m ≤ a.length) (fun m => a.length - m) 0 (Nat.zero_le _) (by simp only [go_sem, Int.reduceEq, Int.reduceNe, Int.reduceLT, Int.reduceLE, Nat.reduceEqDiff, Nat.reduceAdd, Nat.reduceMul, Nat.reduceLT, Nat.reduceLeDiff, Nat.reduceSub, reduceCtorEq, reduceIte, Int.reduceToNat, beq_self_eq_true, Bool.and_self, List.take_length, decide_true, Bool.not_true, Bool.not_false]) ?_)
  intro m m1
  refine vwp_seq_k fun Ng hNg => ?_
  refine vwp_seq_k fun Nh hNh => vreg tt_ok hF rfl ?_; simp only [go_sem, Int.reduceEq, Int.reduceNe, Int.reduceLT, Int.reduceLE, Nat.reduceEqDiff, Nat.reduceAdd, Nat.reduceMul, Nat.reduceLT, Nat.reduceLeDiff, Nat.reduceSub, reduceCtorEq, reduceIte, Int.reduceToNat, beq_self_eq_true, Bool.and_self, List.take_length, decide_true, Bool.not_true, Bool.not_false, List.length_map]
  refine hNh _ (VWp.keep [0,1,5,14] [1000000] ?_); simp only [go_sem, Int.reduceEq, Int.reduceNe, Int.reduceLT, Int.reduceLE, Nat.reduceEqDiff, Nat.reduceAdd, Nat.reduceMul, Nat.reduceLT, Nat.reduceLeDiff, Nat.reduceSub, reduceCtorEq, reduceIte, Int.reduceToNat, beq_self_eq_true, Bool.and_self, List.take_length, decide_true, Bool.not_true, Bool.not_false]
  refine vif rfl ⟨fun ht => ?_, fun hf => ?_⟩
  · have hlt : m < a.length := by have := of_decide_eq_true ht; omega
    obtain ⟨x, hx⟩ : ∃ x, a[m]? = some x := ⟨_, List.getElem?_eq_getElem hlt⟩
    have hr1 : (a.map fun w => [V.str w]).getD m [] = [.str x] := by simp [hx]
    have hr2 : (a.map V.str).getD (m * 1) .any = .str x := by
      rw [Nat.mul_one, List.getD_eq_getElem?_getD, List.getElem?_map, hx]; rfl
    have hp1 : (0 : Int) ≤ (m : Int) ∧ (m : Int) < (a.length : Int) := ⟨by omega, by omega⟩
    refine vwp_skip (hNg _ ?_)
    refine vwp_seq_k fun Ni hNi => ?_
    refine vwp_block ?_
    refine vwp_seq_k fun Nj hNj => vregd tt_ok mixed hF rfl (by kernel_rfl) (by kernel_rfl) ?_; simp only [go_sem, Int.reduceEq, Int.reduceNe, Int.reduceLT, Int.reduceLE, Nat.reduceEqDiff, Nat.reduceAdd, Nat.reduceMul, Nat.reduceLT, Nat.reduceLeDiff, Nat.reduceSub, reduceCtorEq, reduceIte, Int.reduceToNat, beq_self_eq_true, Bool.and_self, List.take_length, decide_true, Bool.not_true, Bool.not_false, List.length_map, hp1, hr1, hr2]
    refine ⟨by omega, ?_⟩
    refine hNj _ (VWp.keep [0,1,5,25] [1000000] ?_); simp only [go_sem, Int.reduceEq, Int.reduceNe, Int.reduceLT, Int.reduceLE, Nat.reduceEqDiff, Nat.reduceAdd, Nat.reduceMul, Nat.reduceLT, Nat.reduceLeDiff, Nat.reduceSub, reduceCtorEq, reduceIte, Int.reduceToNat, beq_self_eq_true, Bool.and_self, List.take_length, decide_true, Bool.not_true, Bool.not_false]
    refine vif rfl ⟨fun ht => (by cases ht), fun hf => ?_⟩
    refine vwp_skip (hNi _ ?_)
    refine vreg tt_ok hF rfl ?_; simp only [go_sem, Int.reduceEq, Int.reduceNe, Int.reduceLT, Int.reduceLE, Nat.reduceEqDiff, Nat.reduceAdd, Nat.reduceMul, Nat.reduceLT, Nat.reduceLeDiff, Nat.reduceSub, reduceCtorEq, reduceIte, Int.reduceToNat, beq_self_eq_true, Bool.and_self, List.take_length, decide_true, Bool.not_true, Bool.not_false]
    rw [wrap_i64 (by omega) (by omega)]
    exact ⟨m + 1, by omega, by omega, by simp⟩
  · refine vwp_exit ?_
    simp only [go_sem, Int.reduceEq, Int.reduceNe, Int.reduceLT, Int.reduceLE, Nat.reduceEqDiff, Nat.reduceAdd, Nat.reduceMul, Nat.reduceLT, Nat.reduceLeDiff, Nat.reduceSub, reduceCtorEq, reduceIte, Int.reduceToNat, beq_self_eq_true, Bool.and_self, List.take_length, decide_true, Bool.not_true, Bool.not_false]
    refine hNe _ (VWp.keepR [] [1000000] tt_ok hF rfl fun Nl hNl => ?_); simp only [go_sem, Int.reduceEq, Int.reduceNe, Int.reduceLT, Int.reduceLE, Nat.reduceEqDiff, Nat.reduceAdd, Nat.reduceMul, Nat.reduceLT, Nat.reduceLeDiff, Nat.reduceSub, reduceCtorEq, reduceIte, Int.reduceToNat, beq_self_eq_true, Bool.and_self, List.take_length, decide_true, Bool.not_true, Bool.not_false]
    refine hNl _ (VWp.keep [4] [1000000] ?_); simp only [go_sem, Int.reduceEq, Int.reduceNe, Int.reduceLT, Int.reduceLE, Nat.reduceEqDiff, Nat.reduceAdd, Nat.reduceMul, Nat.reduceLT, Nat.reduceLeDiff, Nat.reduceSub, reduceCtorEq, reduceIte, Int.reduceToNat, beq_self_eq_true, Bool.and_self, List.take_length, decide_true, Bool.not_true, Bool.not_false]
    refine vwp_ret ?_
    simp only [go_sem, Int.reduceEq, Int.reduceNe, Int.reduceLT, Int.reduceLE, Nat.reduceEqDiff, Nat.reduceAdd, Nat.reduceMul, Nat.reduceLT, Nat.reduceLeDiff, Nat.reduceSub, reduceCtorEq, reduceIte, Int.reduceToNat, beq_self_eq_true, Bool.and_self, List.take_length, decide_true, Bool.not_true, Bool.not_false]
    first | exact LeV.refl _ | exact ⟨LeV.refl _, by simp⟩
set_option maxHeartbeats 8000000 in
set_option maxRecDepth 4000 in
theorem Copy_spec (l : List StmJ) (hl : l.length ≤ 1000000) (hs : ∀ s ∈ l, SmS s) : Spec Tryd.prog 21 [stmsV l] (stmsV l) := by
  refine spec_of tt_ok Tryd.func21 rfl (by decide) Tryd.ntmps21 (congrArg Array.toList Tryd.results21) (by simp) (by decide) rfl rfl (fun F hF => ?_)
  refine vwp_seq_k fun Na hNa => vreg tt_ok hF rfl ?_; simp only [go_sem, Int.reduceEq, Int.reduceNe, Int.reduceLT, Int.reduceLE, Nat.reduceEqDiff, Nat.reduceAdd, Nat.reduceMul, Nat.reduceLT, Nat.reduceLeDiff, Nat.reduceSub, reduceCtorEq, reduceIte, Int.reduceToNat, beq_self_eq_true, Bool.and_self, List.take_length, decide_true, Bool.not_true, Bool.not_false]
  refine hNa _ (VWp.keepR [0] [] tt_ok hF rfl fun Nb hNb => ?_); simp only [go_sem, Int.reduceEq, Int.reduceNe, Int.reduceLT, Int.reduceLE, Nat.reduceEqDiff, Nat.reduceAdd, Nat.reduceMul, Nat.reduceLT, Nat.reduceLeDiff, Nat.reduceSub, reduceCtorEq, reduceIte, Int.reduceToNat, beq_self_eq_true, Bool.and_self, List.take_length, decide_true, Bool.not_true, Bool.not_false]
  refine hNb _ (VWp.keep [0,3] [] ?_); simp only [go_sem, Int.reduceEq, Int.reduceNe, Int.reduceLT, Int.reduceLE, Nat.reduceEqDiff, Nat.reduceAdd, Nat.reduceMul, Nat.reduceLT, Nat.reduceLeDiff, Nat.reduceSub, reduceCtorEq, reduceIte, Int.reduceToNat, beq_self_eq_true, Bool.and_self, List.take_length, decide_true, Bool.not_true, Bool.not_false]
  refine vwp_seq_k fun Nc hNc => ?_
  refine vwp_seq_k fun Nd hNd => vreg tt_ok hF rfl ?_; simp only [go_sem, Int.reduceEq, Int.reduceNe, Int.reduceLT, Int.reduceLE, Nat.reduceEqDiff, Nat.reduceAdd, Nat.reduceMul, Nat.reduceLT, Nat.reduceLeDiff, Nat.reduceSub, reduceCtorEq, reduceIte, Int.reduceToNat, beq_self_eq_true, Bool.and_self, List.take_length, decide_true, Bool.not_true, Bool.not_false]
  refine hNd _ (VWp.keep [0,3,4] [] ?_); simp only [go_sem, Int.reduceEq, Int.reduceNe, Int.reduceLT, Int.reduceLE, Nat.reduceEqDiff, Nat.reduceAdd, Nat.reduceMul, Nat.reduceLT, Nat.reduceLeDiff, Nat.reduceSub, reduceCtorEq, reduceIte, Int.reduceToNat, beq_self_eq_true, Bool.and_self, List.take_length, decide_true, Bool.not_true, Bool.not_false]
  refine VWp.adopt 500000 5 33 (x := 3) rfl rfl (by decide) ?_ (closed_of (by simp only [go_sem, Int.reduceEq, Int.reduceNe, Int.reduceLT, Int.reduceLE, Nat.reduceEqDiff, Nat.reduceAdd, Nat.reduceMul, Nat.reduceLT, Nat.reduceLeDiff, Nat.reduceSub, reduceCtorEq, reduceIte, Int.reduceToNat, beq_self_eq_true, Bool.and_self, List.take_length, decide_true, Bool.not_true, Bool.not_false]) (by simp only [go_sem, Int.reduceEq, Int.reduceNe, Int.reduceLT, Int.reduceLE, Nat.reduceEqDiff, Nat.reduceAdd, Nat.reduceMul, Nat.reduceLT, Nat.reduceLeDiff, Nat.reduceSub, reduceCtorEq, reduceIte, Int.reduceToNat, beq_self_eq_true, Bool.and_self, List.take_length, decide_true, Bool.not_true, Bool.not_false]))
  refine VWp.keep [0,3,4] [500000] ?_; simp only [go_sem, Int.reduceEq, Int.reduceNe, Int.reduceLT, Int.reduceLE, Nat.reduceEqDiff, Nat.reduceAdd, Nat.reduceMul, Nat.reduceLT, Nat.reduceLeDiff, Nat.reduceSub, reduceCtorEq, reduceIte, Int.reduceToNat, beq_self_eq_true, Bool.and_self, List.take_length, decide_true, Bool.not_true, Bool.not_false]
  refine vwp_block (vloop (fun z : Nat × List StmJ => [(0, stmsV l), (3, .own 500000 z.2.length), (4, .int .i64 (z.1 : Int))]) (fun z => [(500000, .arr 5 33 (z.2.map stmC))]) (fun z => z.1 ≤ l.length ∧ z.2 = l.take z.1) (fun z => l.length - z.1) (0, []) ⟨Nat.zero_le _, rfl⟩ (by simp only [go_sem, Int.reduceEq, Int.reduceNe, Int.reduceLT, Int.reduceLE, Nat.reduceEqDiff, Nat.reduceAdd, Nat.reduceMul, Nat.reduceLT, Nat.reduceLeDiff, Nat.reduceSub, reduceCtorEq, reduceIte, Int.reduceToNat, beq_self_eq_true, Bool.and_self, List.take_length, decide_true, Bool.not_true, Bool.not_false, List.length_map]) ?_)
  rintro ⟨m, out⟩ ⟨m1, m2⟩
  have m1 : m ≤ l.length := m1
  have m2 : out = l.take m := m2
  have hol : out.length = m := by rw [m2, List.length_take]; omega
  try dsimp only
  refine vwp_seq_k fun Ne hNe => ?_
  refine vwp_seq_k fun Nf hNf => vreg tt_ok hF rfl ?_; simp only [go_sem, Int.reduceEq, Int.reduceNe, Int.reduceLT, Int.reduceLE, Nat.reduceEqDiff, Nat.reduceAdd, Nat.reduceMul, Nat.reduceLT, Nat.reduceLeDiff, Nat.reduceSub, reduceCtorEq, reduceIte, Int.reduceToNat, beq_self_eq_true, Bool.and_self, List.take_length, decide_true, Bool.not_true, Bool.not_false, List.length_map]
  refine hNf _ (VWp.keep [0,3,4,11] [500000] ?_); simp only [go_sem, Int.reduceEq, Int.reduceNe, Int.reduceLT, Int.reduceLE, Nat.reduceEqDiff, Nat.reduceAdd, Nat.reduceMul, Nat.reduceLT, Nat.reduceLeDiff, Nat.reduceSub, reduceCtorEq, reduceIte, Int.reduceToNat, beq_self_eq_true, Bool.and_self, List.take_length, decide_true, Bool.not_true, Bool.not_false]
  refine vif rfl ⟨fun ht => ?_, fun hf => ?_⟩
  · have hlt : m < l.length := by have := of_decide_eq_true ht; omega
    obtain ⟨s, hg⟩ : ∃ s, l[m]? = some s := ⟨_, List.getElem?_eq_getElem hlt⟩
    have hss := hs s (List.mem_of_getElem? hg)
    have hrow : (l.map stmC).getD m [] = [.int .i64 s.line, .str s.name, .str s.op, .sl 3 (s.params.map prmC), .sl 1 (s.data.map fun w => [V.str w])] := by simp [hg, stmC, prmsV, strsV]
    have hpi : (0 : Int) ≤ (m : Int) ∧ (m : Int) < (l.length : Int) := ⟨by omega, by omega⟩
    have hstep : out ++ [s] = l.take (m + 1) := by rw [m2, List.take_add_one, hg]; rfl
    have hdl := hss.dl
    have hppl := hss.pl
    refine vwp_skip (hNe _ ?_)
    refine vwp_seq_k fun Ng hNg => ?_
    refine vwp_block ?_
    refine vwp_seq_k fun Nh hNh => vreg tt_ok hF rfl ?_; simp only [go_sem, Int.reduceEq, Int.reduceNe, Int.reduceLT, Int.reduceLE, Nat.reduceEqDiff, Nat.reduceAdd, Nat.reduceMul, Nat.reduceLT, Nat.reduceLeDiff, Nat.reduceSub, reduceCtorEq, reduceIte, Int.reduceToNat, beq_self_eq_true, Bool.and_self, List.take_length, decide_true, Bool.not_true, Bool.not_false, List.length_map, hpi, hrow]
    refine hNh _ (VWp.keepR [0,3,4,5] [5,500000] tt_ok hF rfl fun Ni hNi => ?_); simp only [go_sem, Int.reduceEq, Int.reduceNe, Int.reduceLT, Int.reduceLE, Nat.reduceEqDiff, Nat.reduceAdd, Nat.reduceMul, Nat.reduceLT, Nat.reduceLeDiff, Nat.reduceSub, reduceCtorEq, reduceIte, Int.reduceToNat, beq_self_eq_true, Bool.and_self, List.take_length, decide_true, Bool.not_true, Bool.not_false]
    refine hNi _ (VWp.keep [0,3,4,5] [5,500000] ?_); simp only [go_sem, Int.reduceEq, Int.reduceNe, Int.reduceLT, Int.reduceLE, Nat.reduceEqDiff, Nat.reduceAdd, Nat.reduceMul, Nat.reduceLT, Nat.reduceLeDiff, Nat.reduceSub, reduceCtorEq, reduceIte, Int.reduceToNat, beq_self_eq_true, Bool.and_self, List.take_length, decide_true, Bool.not_true, Bool.not_false]
    refine vwp_seq_k fun Nj hNj => ?_
    refine vwp_seq_k fun Nk hNk => vreg tt_ok hF rfl ?_; simp only [go_sem, Int.reduceEq, Int.reduceNe, Int.reduceLT, Int.reduceLE, Nat.reduceEqDiff, Nat.reduceAdd, Nat.reduceMul, Nat.reduceLT, Nat.reduceLeDiff, Nat.reduceSub, reduceCtorEq, reduceIte, Int.reduceToNat, beq_self_eq_true, Bool.and_self, List.take_length, decide_true, Bool.not_true, Bool.not_false]
    refine hNk _ (VWp.keep [0,3,4,5,6] [5,500000] ?_); simp only [go_sem, Int.reduceEq, Int.reduceNe, Int.reduceLT, Int.reduceLE, Nat.reduceEqDiff, Nat.reduceAdd, Nat.reduceMul, Nat.reduceLT, Nat.reduceLeDiff, Nat.reduceSub, reduceCtorEq, reduceIte, Int.reduceToNat, beq_self_eq_true, Bool.and_self, List.take_length, decide_true, Bool.not_true, Bool.not_false]
    refine VWp.adoptB 500001 3 42 (o := 5) (i := 3) rfl rfl rfl (by decide) ?_
    refine VWp.keep [0,3,4,5,6] [5,500000,500001] ?_; simp only [go_sem, Int.reduceEq, Int.reduceNe, Int.reduceLT, Int.reduceLE, Nat.reduceEqDiff, Nat.reduceAdd, Nat.reduceMul, Nat.reduceLT, Nat.reduceLeDiff, Nat.reduceSub, reduceCtorEq, reduceIte, Int.reduceToNat, beq_self_eq_true, Bool.and_self, List.take_length, decide_true, Bool.not_true, Bool.not_false]
    refine vwp_block (vloop (fun z : Nat × List PrmJ => [(0, stmsV l), (3, .own 500000 out.length), (4, .int .i64 (m : Int)), (5, .ptr 5 0), (6, .int .i64 (z.1 : Int))])
      (fun z => [(5, .box 33 [.int .i64 s.line, .str s.name, .str s.op, .own 500001 z.2.length, strsV s.data]), (500000, .arr 5 33 (out.map stmC)), (500001, .arr 3 42 (z.2.map prmC))])
      (fun z => z.1 ≤ s.params.length ∧ z.2 = s.params.take z.1) (fun z => s.params.length - z.1) (0, []) ⟨Nat.zero_le _, rfl⟩ (by simp only [go_sem, Int.reduceEq, Int.reduceNe, Int.reduceLT, Int.reduceLE, Nat.reduceEqDiff, Nat.reduceAdd, Nat.reduceMul, Nat.reduceLT, Nat.reduceLeDiff, Nat.reduceSub, reduceCtorEq, reduceIte, Int.reduceToNat, beq_self_eq_true, Bool.and_self, List.take_length, decide_true, Bool.not_true, Bool.not_false, List.length_map]) ?_)
    rintro ⟨q, ps⟩ ⟨q1, q2⟩
    have q1 : q ≤ s.params.length := q1
    have q2 : ps = s.params.take q := q2
    have hpsl : ps.length = q := by rw [q2, List.length_take]; omega
    try dsimp only
    refine vwp_seq_k fun Nl hNl => ?_
    refine vwp_seq_k fun Nm hNm => vreg tt_ok hF rfl ?_; simp only [go_sem, Int.reduceEq, Int.reduceNe, Int.reduceLT, Int.reduceLE, Nat.reduceEqDiff, Nat.reduceAdd, Nat.reduceMul, Nat.reduceLT, Nat.reduceLeDiff, Nat.reduceSub, reduceCtorEq, reduceIte, Int.reduceToNat, beq_self_eq_true, Bool.and_self, List.take_length, decide_true, Bool.not_true, Bool.not_false, List.length_map, hpi, hrow]
    refine hNm _ (VWp.keep [0,3,4,5,6,26] [5,500000,500001] ?_); simp only [go_sem, Int.reduceEq, Int.reduceNe, Int.reduceLT, Int.reduceLE, Nat.reduceEqDiff, Nat.reduceAdd, Nat.reduceMul, Nat.reduceLT, Nat.reduceLeDiff, Nat.reduceSub, reduceCtorEq, reduceIte, Int.reduceToNat, beq_self_eq_true, Bool.and_self, List.take_length, decide_true, Bool.not_true, Bool.not_false]
    refine vif rfl ⟨fun ht => ?_, fun hf => ?_⟩
    · have hqlt : q < s.params.length := by have := of_decide_eq_true ht; omega
      obtain ⟨p, hgp⟩ : ∃ p, s.params[q]? = some p := ⟨_, List.getElem?_eq_getElem hqlt⟩
      have hpp := (hss.pp p (List.mem_of_getElem? hgp)).2.2
      have hrow2 : (s.params.map prmC).getD q [] = [.str p.key, .str p.value, .sl 1 (p.parts.map fun w => [V.str w])] := by simp [hgp, prmC, strsV]
      have hpq : (0 : Int) ≤ (q : Int) ∧ (q : Int) < (s.params.length : Int) := ⟨by omega, by omega⟩
      have hstep2 : ps ++ [p] = s.params.take (q + 1) := by rw [q2, List.take_add_one, hgp]; rfl
      refine vwp_skip (hNl _ ?_)
      refine vwp_seq_k fun Nn hNn => ?_
      refine vwp_block ?_
      refine vwp_seq_k fun No hNo => vreg tt_ok hF rfl ?_; simp only [go_sem, Int.reduceEq, Int.reduceNe, Int.reduceLT, Int.reduceLE, Nat.reduceEqDiff, Nat.reduceAdd, Nat.reduceMul, Nat.reduceLT, Nat.reduceLeDiff, Nat.reduceSub, reduceCtorEq, reduceIte, Int.reduceToNat, beq_self_eq_true, Bool.and_self, List.take_length, decide_true, Bool.not_true, Bool.not_false, List.length_map, hpi, hrow, hpq, hrow2]
      refine hNo _ (VWp.keepR [0,3,4,5,6,7] [5,7,500000,500001] tt_ok hF rfl fun Np hNp => ?_); simp only [go_sem, Int.reduceEq, Int.reduceNe, Int.reduceLT, Int.reduceLE, Nat.reduceEqDiff, Nat.reduceAdd, Nat.reduceMul, Nat.reduceLT, Nat.reduceLeDiff, Nat.reduceSub, reduceCtorEq, reduceIte, Int.reduceToNat, beq_self_eq_true, Bool.and_self, List.take_length, decide_true, Bool.not_true, Bool.not_false]
      refine ⟨by omega, ?_⟩
      refine hNp _ ?_
      refine VWp.lookB 7 2 (d := 37) rfl rfl rfl (by simp) ?_
      refine VWp.keep [0,3,4,5,6,7] [5,7,500000,500001] ?_; simp only [go_sem, Int.reduceEq, Int.reduceNe, Int.reduceLT, Int.reduceLE, Nat.reduceEqDiff, Nat.reduceAdd, Nat.reduceMul, Nat.reduceLT, Nat.reduceLeDiff, Nat.reduceSub, reduceCtorEq, reduceIte, Int.reduceToNat, beq_self_eq_true, Bool.and_self, List.take_length, decide_true, Bool.not_true, Bool.not_false]
      refine vreg tt_ok hF rfl ?_; simp only [go_sem, Int.reduceEq, Int.reduceNe, Int.reduceLT, Int.reduceLE, Nat.reduceEqDiff, Nat.reduceAdd, Nat.reduceMul, Nat.reduceLT, Nat.reduceLeDiff, Nat.reduceSub, reduceCtorEq, reduceIte, Int.reduceToNat, beq_self_eq_true, Bool.and_self, List.take_length, decide_true, Bool.not_true, Bool.not_false]
      refine ⟨by omega, ?_⟩
      refine hNn _ (VWp.keep [0,3,4,5,6] [5,500000,500001] ?_); simp only [go_sem, Int.reduceEq, Int.reduceNe, Int.reduceLT, Int.reduceLE, Nat.reduceEqDiff, Nat.reduceAdd, Nat.reduceMul, Nat.reduceLT, Nat.reduceLeDiff, Nat.reduceSub, reduceCtorEq, reduceIte, Int.reduceToNat, beq_self_eq_true, Bool.and_self, List.take_length, decide_true, Bool.not_true, Bool.not_false]
      refine vreg tt_ok hF rfl ?_; simp only [go_sem, Int.reduceEq, Int.reduceNe, Int.reduceLT, Int.reduceLE, Nat.reduceEqDiff, Nat.reduceAdd, Nat.reduceMul, Nat.reduceLT, Nat.reduceLeDiff, Nat.reduceSub, reduceCtorEq, reduceIte, Int.reduceToNat, beq_self_eq_true, Bool.and_self, List.take_length, decide_true, Bool.not_true, Bool.not_false]
      rw [wrap_i64 (by omega) (by omega)]
      exact ⟨(q + 1, ps ++ [p]), ⟨by simp only; omega, hstep2⟩, by simp only; omega, by simp [prmC, strsV]⟩
    · have hq : q = s.params.length := by have := of_decide_eq_false hf; omega
      have hps : ps = s.params := by rw [q2, hq, List.take_length]
      subst hps
      refine vwp_exit ?_
      simp only [go_sem, Int.reduceEq, Int.reduceNe, Int.reduceLT, Int.reduceLE, Nat.reduceEqDiff, Nat.reduceAdd, Nat.reduceMul, Nat.reduceLT, Nat.reduceLeDiff, Nat.reduceSub, reduceCtorEq, reduceIte, Int.reduceToNat, beq_self_eq_true, Bool.and_self, List.take_length, decide_true, Bool.not_true, Bool.not_false]
      refine hNj _ (VWp.keep [0,3,4,5] [5,500000,500001] ?_); simp only [go_sem, Int.reduceEq, Int.reduceNe, Int.reduceLT, Int.reduceLE, Nat.reduceEqDiff, Nat.reduceAdd, Nat.reduceMul, Nat.reduceLT, Nat.reduceLeDiff, Nat.reduceSub, reduceCtorEq, reduceIte, Int.reduceToNat, beq_self_eq_true, Bool.and_self, List.take_length, decide_true, Bool.not_true, Bool.not_false]
      refine vwp_seq_k fun Nq hNq => vreg tt_ok hF rfl ?_; simp only [go_sem, Int.reduceEq, Int.reduceNe, Int.reduceLT, Int.reduceLE, Nat.reduceEqDiff, Nat.reduceAdd, Nat.reduceMul, Nat.reduceLT, Nat.reduceLeDiff, Nat.reduceSub, reduceCtorEq, reduceIte, Int.reduceToNat, beq_self_eq_true, Bool.and_self, List.take_length, decide_true, Bool.not_true, Bool.not_false, List.length_map, hpi, hrow]
      refine ⟨by omega, ?_⟩
      refine hNq _ ?_
      refine VWp.lookB 5 3 (d := 500001) rfl rfl rfl (by simp) ?_
      refine VWp.lookB 5 4 (d := 48) rfl rfl rfl (by simp) ?_
      refine VWp.keep [0,3,4,5] [5,500000] ?_; simp only [go_sem, Int.reduceEq, Int.reduceNe, Int.reduceLT, Int.reduceLE, Nat.reduceEqDiff, Nat.reduceAdd, Nat.reduceMul, Nat.reduceLT, Nat.reduceLeDiff, Nat.reduceSub, reduceCtorEq, reduceIte, Int.reduceToNat, beq_self_eq_true, Bool.and_self, List.take_length, decide_true, Bool.not_true, Bool.not_false]
      refine vreg tt_ok hF rfl ?_; simp only [go_sem, Int.reduceEq, Int.reduceNe, Int.reduceLT, Int.reduceLE, Nat.reduceEqDiff, Nat.reduceAdd, Nat.reduceMul, Nat.reduceLT, Nat.reduceLeDiff, Nat.reduceSub, reduceCtorEq, reduceIte, Int.reduceToNat, beq_self_eq_true, Bool.and_self, List.take_length, decide_true, Bool.not_true, Bool.not_false]
      refine ⟨by omega, ?_⟩
      refine hNg _ (VWp.keep [0,3,4] [500000] ?_); simp only [go_sem, Int.reduceEq, Int.reduceNe, Int.reduceLT, Int.reduceLE, Nat.reduceEqDiff, Nat.reduceAdd, Nat.reduceMul, Nat.reduceLT, Nat.reduceLeDiff, Nat.reduceSub, reduceCtorEq, reduceIte, Int.reduceToNat, beq_self_eq_true, Bool.and_self, List.take_length, decide_true, Bool.not_true, Bool.not_false]
      refine vreg tt_ok hF rfl ?_; simp only [go_sem, Int.reduceEq, Int.reduceNe, Int.reduceLT, Int.reduceLE, Nat.reduceEqDiff, Nat.reduceAdd, Nat.reduceMul, Nat.reduceLT, Nat.reduceLeDiff, Nat.reduceSub, reduceCtorEq, reduceIte, Int.reduceToNat, beq_self_eq_true, Bool.and_self, List.take_length, decide_true, Bool.not_true, Bool.not_false]
      rw [wrap_i64 (by omega) (by omega)]
      exact ⟨(m + 1, out ++ [s]), ⟨by simp only; omega, hstep⟩, by simp only; omega, by simp [stmC, prmsV, strsV, stmsV]⟩
  · have hm : m = l.length := by have := of_decide_eq_false hf; omega
    have ho : out = l := by rw [m2, hm, List.take_length]
    subst ho
    refine vwp_exit ?_
    simp only [go_sem, Int.reduceEq, Int.reduceNe, Int.reduceLT, Int.reduceLE, Nat.reduceEqDiff, Nat.reduceAdd, Nat.reduceMul, Nat.reduceLT, Nat.reduceLeDiff, Nat.reduceSub, reduceCtorEq, reduceIte, Int.reduceToNat, beq_self_eq_true, Bool.and_self, List.take_length, decide_true, Bool.not_true, Bool.not_false]
    refine hNc _ (VWp.keepR [3] [500000] tt_ok hF rfl fun Nr hNr => ?_); simp only [go_sem, Int.reduceEq, Int.reduceNe, Int.reduceLT, Int.reduceLE, Nat.reduceEqDiff, Nat.reduceAdd, Nat.reduceMul, Nat.reduceLT, Nat.reduceLeDiff, Nat.reduceSub, reduceCtorEq, reduceIte, Int.reduceToNat, beq_self_eq_true, Bool.and_self, List.take_length, decide_true, Bool.not_true, Bool.not_false]
    refine hNr _ (VWp.keep [2] [500000] ?_); simp only [go_sem, Int.reduceEq, Int.reduceNe, Int.reduceLT, Int.reduceLE, Nat.reduceEqDiff, Nat.reduceAdd, Nat.reduceMul, Nat.reduceLT, Nat.reduceLeDiff, Nat.reduceSub, reduceCtorEq, reduceIte, Int.reduceToNat, beq_self_eq_true, Bool.and_self, List.take_length, decide_true, Bool.not_true, Bool.not_false]
    refine vwp_ret ?_
    simp only [go_sem, Int.reduceEq, Int.reduceNe, Int.reduceLT, Int.reduceLE, Nat.reduceEqDiff, Nat.reduceAdd, Nat.reduceMul, Nat.reduceLT, Nat.reduceLeDiff, Nat.reduceSub, reduceCtorEq, reduceIte, Int.reduceToNat, beq_self_eq_true, Bool.and_self, List.take_length, decide_true, Bool.not_true, Bool.not_false]
    exact LeV.refl _
def spoilC (l : List Jb) (j : Nat) : List V := (l.take j).map (fun w => V.str (w ++ [63])) ++ (l.drop j).map V.str
theorem strQ_refs (l : List Jb) : V.refsL (l.map fun w => V.str (w ++ [63])) = [] := by
  induction l with
  | nil => rfl
  | cons a t ih => rw [List.map_cons]; show [] ++ V.refsL (t.map fun w => V.str (w ++ [63])) = []; rw [ih]; rfl
theorem refsL_app (a b : List V) : V.refsL (a ++ b) = V.refsL a ++ V.refsL b := by
  induction a with
  | nil => rfl
  | cons x a ih => show x.refs ++ V.refsL (a ++ b) = x.refs ++ V.refsL a ++ V.refsL b; rw [ih, List.append_assoc]
theorem spoil_refs (l : List Jb) (j : Nat) : V.refsL (spoilC l j) = [] := by unfold spoilC; rw [refsL_app, strQ_refs, strC_refs]; rfl
theorem spoil_len (l : List Jb) (j : Nat) (h : j ≤ l.length) : (spoilC l j).length = l.length := by unfold spoilC; simp; omega
theorem spl1_set' (i : Nat) (x : V) : ∀ l : List V, i < l.length → spl1 i [x] l = l.set i x := fun l h => by
  induction l generalizing i with
  | nil => simp at h
  | cons a t ih =>
    cases i with
    | zero => cases t <;> rfl
    | succ i => show a :: spl1 i [x] t = a :: t.set i x; rw [ih i (by simpa using h)]
theorem spoil_step (l : List Jb) (j : Nat) {x : Jb} (h : l[j]? = some x) : spl1 (j * 1) [V.str (x ++ [63])] (spoilC l j) = spoilC l (j + 1) := by
  obtain ⟨h1, h2⟩ := List.getElem?_eq_some_iff.1 h
  rw [Nat.mul_one, spl1_set' _ _ _ (by rw [spoil_len _ _ (by omega)]; exact h1)]
  unfold spoilC
  rw [List.set_append, if_neg (by simp; omega)]
  simp only [List.length_map, List.length_take, Nat.min_eq_left (Nat.le_of_lt h1), Nat.sub_self]
  rw [List.drop_eq_getElem_cons h1, h2, List.take_add_one, h]
  simp
theorem spoil_at (l : List Jb) (j : Nat) {x : Jb} (h : l[j]? = some x) : (spoilC l j).getD (j * 1) .any = .str x := by
  obtain ⟨h1, h2⟩ := List.getElem?_eq_some_iff.1 h
  rw [Nat.mul_one, List.getD_eq_getElem?_getD]
  unfold spoilC
  rw [List.getElem?_append_right (by simp; omega), List.getElem?_map, List.getElem?_drop]
  simp [Nat.min_eq_left (Nat.le_of_lt h1), h]
attribute [go_sem] spoil_refs
theorem get_cases (s : StmJ) (key : Jb) : (∃ k val b, getV s key = .tup [.agg [.str k, .str val, .sl 1 []], .bool b]) ∨ ∃ p0, getJ s key = some p0 ∧ p0.parts ≠ [] ∧ p0 ∈ s.params ∧ getV s key = .tup [.agg [.str p0.key, .str p0.value, strsV p0.parts], .bool true] := by
  unfold getV
  cases h : getJ s key with
  | none => exact .inl ⟨[], [], false, rfl⟩
  | some p =>
    by_cases hp : p.parts = []
    · exact .inl ⟨p.key, p.value, true, by simp [prmV, prmC, hp, strsV]⟩
    · exact .inr ⟨p, rfl, hp, List.mem_of_find?_eq_some h, rfl⟩
set_option maxHeartbeats 16000000 in
set_option maxRecDepth 4000 in
theorem JclParts_spec (v : Jb) (s : StmJ) (key : Jb) : Spec Tryd.prog 5 [.str v, stmV s, .str key] (.bool true) := by
  have hw := works_spec
  have hb := BigStmts_spec [s]
  have hbn := bigL_no (l := [s])
  generalize bigL [s] = bb at hb hbn
  have hb : Spec Tryd.prog 15 [.sl 5 [[.int .i64 s.line, .str s.name, .str s.op, .sl 3 (s.params.map prmC), .sl 1 (s.data.map fun w => [V.str w])]]] (.bool bb) := hb
  have e1 : decide ((1000 : Int) < (v.length : Int)) = !decide (v.length ≤ 1000) := gt_nat 1000 _
  have e2 : decide ((1000 : Int) < (key.length : Int)) = !decide (key.length ≤ 1000) := gt_nat 1000 _
  refine spec_of tt_ok Tryd.func5 rfl (by decide) Tryd.ntmps5 (congrArg Array.toList Tryd.results5) (by simp) (by decide) rfl rfl (fun F hF => ?_)
  refine vwp_seq_k fun Na hNa => vreg tt_ok hF rfl ?_; simp only [go_sem, Int.reduceEq, Int.reduceNe, Int.reduceLT, Int.reduceLE, Nat.reduceEqDiff, Nat.reduceAdd, Nat.reduceMul, Nat.reduceLT, Nat.reduceLeDiff, Nat.reduceSub, reduceCtorEq, reduceIte, Int.reduceToNat, beq_self_eq_true, Bool.and_self, List.take_length, decide_true, Bool.not_true, Bool.not_false]
  refine hNa _ (VWp.keep [0,2,4] [4] ?_); simp only [go_sem, Int.reduceEq, Int.reduceNe, Int.reduceLT, Int.reduceLE, Nat.reduceEqDiff, Nat.reduceAdd, Nat.reduceMul, Nat.reduceLT, Nat.reduceLeDiff, Nat.reduceSub, reduceCtorEq, reduceIte, Int.reduceToNat, beq_self_eq_true, Bool.and_self, List.take_length, decide_true, Bool.not_true, Bool.not_false]
  refine vwp_seq_k fun Nb hNb => ?_
  refine vmeet (fun z : Bool => [(0, .str v), (2, .str key), (4, .ptr 4 0), (33, .bool z)]) (fun _ => [(4, .box 33 (stmC s))]) (fun z => z = (!decide (v.length ≤ 1000) || !decide (key.length ≤ 1000) || bb)) ?_ ?_
  · generalize decide (v.length ≤ 1000) = b1 at e1 ⊢
    generalize decide (key.length ≤ 1000) = b2 at e2 ⊢
    cases b1 <;> cases b2
    all_goals
      refine vreg tt_ok hF rfl ?_; simp only [go_sem, Int.reduceEq, Int.reduceNe, Int.reduceLT, Int.reduceLE, Nat.reduceEqDiff, Nat.reduceAdd, Nat.reduceMul, Nat.reduceLT, Nat.reduceLeDiff, Nat.reduceSub, reduceCtorEq, reduceIte, Int.reduceToNat, beq_self_eq_true, Bool.and_self, List.take_length, decide_true, Bool.not_true, Bool.not_false, e1, e2]
      try (refine .inl ⟨_, hb, ?_⟩; try simp only [go_sem, Int.reduceEq, Int.reduceNe, Int.reduceLT, Int.reduceLE, Nat.reduceEqDiff, Nat.reduceAdd, Nat.reduceMul, Nat.reduceLT, Nat.reduceLeDiff, Nat.reduceSub, reduceCtorEq, reduceIte, Int.reduceToNat, beq_self_eq_true, Bool.and_self, List.take_length, decide_true, Bool.not_true, Bool.not_false])
      exact ⟨_, rfl, by simp⟩
  intro z hz
  simp only [stmC, prmsV, strsV]
  refine vif rfl ⟨fun ht => ?_, fun hf => ?_⟩
  · refine vwp_seq_k fun Nd hNd => vreg tt_ok hF rfl ?_; simp only [go_sem, Int.reduceEq, Int.reduceNe, Int.reduceLT, Int.reduceLE, Nat.reduceEqDiff, Nat.reduceAdd, Nat.reduceMul, Nat.reduceLT, Nat.reduceLeDiff, Nat.reduceSub, reduceCtorEq, reduceIte, Int.reduceToNat, beq_self_eq_true, Bool.and_self, List.take_length, decide_true, Bool.not_true, Bool.not_false]
    refine hNd _ (VWp.keep [6] [] ?_); simp only [go_sem, Int.reduceEq, Int.reduceNe, Int.reduceLT, Int.reduceLE, Nat.reduceEqDiff, Nat.reduceAdd, Nat.reduceMul, Nat.reduceLT, Nat.reduceLeDiff, Nat.reduceSub, reduceCtorEq, reduceIte, Int.reduceToNat, beq_self_eq_true, Bool.and_self, List.take_length, decide_true, Bool.not_true, Bool.not_false]
    refine vwp_ret ?_
    simp only [go_sem, Int.reduceEq, Int.reduceNe, Int.reduceLT, Int.reduceLE, Nat.reduceEqDiff, Nat.reduceAdd, Nat.reduceMul, Nat.reduceLT, Nat.reduceLeDiff, Nat.reduceSub, reduceCtorEq, reduceIte, Int.reduceToNat, beq_self_eq_true, Bool.and_self, List.take_length, decide_true, Bool.not_true, Bool.not_false]
    exact LeV.refl _
  rw [hf] at hz
  have hz := hz.symm
  simp only [Bool.or_eq_false_iff, Bool.not_eq_false', decide_eq_true_eq] at hz
  obtain ⟨⟨hv, hkey⟩, hbb⟩ := hz
  obtain ⟨_, hfew⟩ := hbn hbb
  have hfew := hfew s List.mem_cons_self
  have hparl := hfew.pl
  have h1 := Parts_spec v (by omega)
  have h2 := rParts_spec v (by omega)
  have h3 := Text_spec v (by omega)
  have h4 := rText_spec v (by omega)
  have hplen := parts_len v
  generalize (partsJ v).getD [] = P at h1 h2 hplen
  generalize (partsJ v).isSome = Pb at h1 h2
  generalize (txtJ v).getD [] = T at h3 h4
  generalize (txtJ v).isSome = Tb at h3 h4
  have h5 := SameTexts_spec P (by omega)
  obtain ⟨L, hL⟩ : ∃ L, L = [stmC s] := ⟨_, rfl⟩
  have hcopy : Spec Tryd.prog 21 [.sl 5 [[.int .i64 s.line, .str s.name, .str s.op, .sl 3 (s.params.map prmC), .sl 1 (s.data.map fun w => [V.str w])]]] (.sl 5 L) := by
    rw [hL]; exact Copy_spec [s] (by simp) (fun x hx => by rw [List.mem_singleton] at hx; subst hx; exact hfew.sm)
  have hsame : Spec Tryd.prog 24 [.sl 5 L, .sl 5 [[.int .i64 s.line, .str s.name, .str s.op, .sl 3 (s.params.map prmC), .sl 1 (s.data.map fun w => [V.str w])]], .bool true] (.bool true) := by
    rw [hL]
    exact Same_spec true [s] [s] rfl (by simp) (fun i x y hx hy => by rw [hx] at hy; injection hy with hy; subst hy; exact ⟨fun _ => rfl, rfl, rfl, rfl, rfl⟩) (fun x hx => by
      rw [List.mem_singleton] at hx; subst hx
      exact ⟨by omega, by have := hfew.dl; omega, fun p hp => by have := (hfew.pp p hp).2.2.1; omega⟩)
  have hL0 : L.getD 0 [] = [.int .i64 s.line, .str s.name, .str s.op, .sl 3 (s.params.map prmC), .sl 1 (s.data.map fun w => [V.str w])] := by rw [hL]; rfl
  have hLp : (0 : Int) < (L.length : Int) := by rw [hL]; show (0 : Int) < ((1 : Nat) : Int); decide
  clear hL
  have hpp : ∀ p ∈ s.params, p.parts.length ≤ 1000000000 := fun p hp => by have := (hfew.pp p hp).2.2.1; omega
  have g1 := Get_spec s key (by omega) hpp
  have g2 := rGet_spec s key (by omega)
  refine vwp_skip (hNb _ ?_)
  refine vwp_seq_k fun Ne hNe => vreg tt_ok hF rfl ?_; simp only [go_sem, Int.reduceEq, Int.reduceNe, Int.reduceLT, Int.reduceLE, Nat.reduceEqDiff, Nat.reduceAdd, Nat.reduceMul, Nat.reduceLT, Nat.reduceLeDiff, Nat.reduceSub, reduceCtorEq, reduceIte, Int.reduceToNat, beq_self_eq_true, Bool.and_self, List.take_length, decide_true, Bool.not_true, Bool.not_false]
  refine .inl ⟨_, h1, ?_⟩; try simp only [go_sem, Int.reduceEq, Int.reduceNe, Int.reduceLT, Int.reduceLE, Nat.reduceEqDiff, Nat.reduceAdd, Nat.reduceMul, Nat.reduceLT, Nat.reduceLeDiff, Nat.reduceSub, reduceCtorEq, reduceIte, Int.reduceToNat, beq_self_eq_true, Bool.and_self, List.take_length, decide_true, Bool.not_true, Bool.not_false]
  refine hNe _ (VWp.keepR [0,2,4,7,8] [4] tt_ok hF rfl fun Nf hNf => ?_); simp only [go_sem, Int.reduceEq, Int.reduceNe, Int.reduceLT, Int.reduceLE, Nat.reduceEqDiff, Nat.reduceAdd, Nat.reduceMul, Nat.reduceLT, Nat.reduceLeDiff, Nat.reduceSub, reduceCtorEq, reduceIte, Int.reduceToNat, beq_self_eq_true, Bool.and_self, List.take_length, decide_true, Bool.not_true, Bool.not_false]
  refine .inl ⟨_, h2, ?_⟩; try simp only [go_sem, Int.reduceEq, Int.reduceNe, Int.reduceLT, Int.reduceLE, Nat.reduceEqDiff, Nat.reduceAdd, Nat.reduceMul, Nat.reduceLT, Nat.reduceLeDiff, Nat.reduceSub, reduceCtorEq, reduceIte, Int.reduceToNat, beq_self_eq_true, Bool.and_self, List.take_length, decide_true, Bool.not_true, Bool.not_false]
  refine hNf _ (VWp.keepR [0,2,4,7,8,9,10] [4] tt_ok hF rfl fun Ng hNg => ?_); simp only [go_sem, Int.reduceEq, Int.reduceNe, Int.reduceLT, Int.reduceLE, Nat.reduceEqDiff, Nat.reduceAdd, Nat.reduceMul, Nat.reduceLT, Nat.reduceLeDiff, Nat.reduceSub, reduceCtorEq, reduceIte, Int.reduceToNat, beq_self_eq_true, Bool.and_self, List.take_length, decide_true, Bool.not_true, Bool.not_false]
  refine .inl ⟨_, h3, ?_⟩; try simp only [go_sem, Int.reduceEq, Int.reduceNe, Int.reduceLT, Int.reduceLE, Nat.reduceEqDiff, Nat.reduceAdd, Nat.reduceMul, Nat.reduceLT, Nat.reduceLeDiff, Nat.reduceSub, reduceCtorEq, reduceIte, Int.reduceToNat, beq_self_eq_true, Bool.and_self, List.take_length, decide_true, Bool.not_true, Bool.not_false]
  refine hNg _ (VWp.keepR [0,2,4,7,8,9,10,11,12] [4] tt_ok hF rfl fun Nh hNh => ?_); simp only [go_sem, Int.reduceEq, Int.reduceNe, Int.reduceLT, Int.reduceLE, Nat.reduceEqDiff, Nat.reduceAdd, Nat.reduceMul, Nat.reduceLT, Nat.reduceLeDiff, Nat.reduceSub, reduceCtorEq, reduceIte, Int.reduceToNat, beq_self_eq_true, Bool.and_self, List.take_length, decide_true, Bool.not_true, Bool.not_false]
  refine .inl ⟨_, h4, ?_⟩; try simp only [go_sem, Int.reduceEq, Int.reduceNe, Int.reduceLT, Int.reduceLE, Nat.reduceEqDiff, Nat.reduceAdd, Nat.reduceMul, Nat.reduceLT, Nat.reduceLeDiff, Nat.reduceSub, reduceCtorEq, reduceIte, Int.reduceToNat, beq_self_eq_true, Bool.and_self, List.take_length, decide_true, Bool.not_true, Bool.not_false]
  refine hNh _ (VWp.keep [2,4,7,8,9,10,11,12,13,14] [4] ?_); simp only [go_sem, Int.reduceEq, Int.reduceNe, Int.reduceLT, Int.reduceLE, Nat.reduceEqDiff, Nat.reduceAdd, Nat.reduceMul, Nat.reduceLT, Nat.reduceLeDiff, Nat.reduceSub, reduceCtorEq, reduceIte, Int.reduceToNat, beq_self_eq_true, Bool.and_self, List.take_length, decide_true, Bool.not_true, Bool.not_false]
  refine vwp_seq_k fun Ni hNi => ?_
  refine vwp_seq_k fun Nj hNj => vreg tt_ok hF rfl ?_; simp only [go_sem, Int.reduceEq, Int.reduceNe, Int.reduceLT, Int.reduceLE, Nat.reduceEqDiff, Nat.reduceAdd, Nat.reduceMul, Nat.reduceLT, Nat.reduceLeDiff, Nat.reduceSub, reduceCtorEq, reduceIte, Int.reduceToNat, beq_self_eq_true, Bool.and_self, List.take_length, decide_true, Bool.not_true, Bool.not_false]
  refine .inl ⟨_, h5, ?_⟩; try simp only [go_sem, Int.reduceEq, Int.reduceNe, Int.reduceLT, Int.reduceLE, Nat.reduceEqDiff, Nat.reduceAdd, Nat.reduceMul, Nat.reduceLT, Nat.reduceLeDiff, Nat.reduceSub, reduceCtorEq, reduceIte, Int.reduceToNat, beq_self_eq_true, Bool.and_self, List.take_length, decide_true, Bool.not_true, Bool.not_false]
  refine hNj _ (VWp.keep [2,4,72] [4] ?_); simp only [go_sem, Int.reduceEq, Int.reduceNe, Int.reduceLT, Int.reduceLE, Nat.reduceEqDiff, Nat.reduceAdd, Nat.reduceMul, Nat.reduceLT, Nat.reduceLeDiff, Nat.reduceSub, reduceCtorEq, reduceIte, Int.reduceToNat, beq_self_eq_true, Bool.and_self, List.take_length, decide_true, Bool.not_true, Bool.not_false]
  refine vif rfl ⟨fun ht => (by cases ht), fun hf => ?_⟩
  refine vwp_skip (hNi _ ?_)
  refine vwp_seq_k fun Nl hNl => vreg tt_ok hF rfl ?_; simp only [go_sem, Int.reduceEq, Int.reduceNe, Int.reduceLT, Int.reduceLE, Nat.reduceEqDiff, Nat.reduceAdd, Nat.reduceMul, Nat.reduceLT, Nat.reduceLeDiff, Nat.reduceSub, reduceCtorEq, reduceIte, Int.reduceToNat, beq_self_eq_true, Bool.and_self, List.take_length, decide_true, Bool.not_true, Bool.not_false]
  refine .inl ⟨_, hcopy, ?_⟩; try simp only [go_sem, Int.reduceEq, Int.reduceNe, Int.reduceLT, Int.reduceLE, Nat.reduceEqDiff, Nat.reduceAdd, Nat.reduceMul, Nat.reduceLT, Nat.reduceLeDiff, Nat.reduceSub, reduceCtorEq, reduceIte, Int.reduceToNat, beq_self_eq_true, Bool.and_self, List.take_length, decide_true, Bool.not_true, Bool.not_false]
  refine hNl _ (VWp.keep [2,4,15] [4] ?_); simp only [go_sem, Int.reduceEq, Int.reduceNe, Int.reduceLT, Int.reduceLE, Nat.reduceEqDiff, Nat.reduceAdd, Nat.reduceMul, Nat.reduceLT, Nat.reduceLeDiff, Nat.reduceSub, reduceCtorEq, reduceIte, Int.reduceToNat, beq_self_eq_true, Bool.and_self, List.take_length, decide_true, Bool.not_true, Bool.not_false]
  rcases get_cases s key with ⟨k0, v0, b0, hg⟩ | ⟨p0, hg0, hne, hmem, hg⟩
  · rw [hg] at g1 g2
    have g1 : Spec Tryd.prog 22 [.agg [.int .i64 s.line, .str s.name, .str s.op, .sl 3 (s.params.map prmC), .sl 1 (s.data.map fun w => [V.str w])], .str key] (.tup [.agg [.str k0, .str v0, .sl 1 []], .bool b0]) := g1
    have g2 : Spec Tryd.prog 23 [.agg [.int .i64 s.line, .str s.name, .str s.op, .sl 3 (s.params.map prmC), .sl 1 (s.data.map fun w => [V.str w])], .str key] (.tup [.agg [.str k0, .str v0, .sl 1 []], .bool b0]) := g2
    have h6 : Spec Tryd.prog 20 [.sl 1 [], .sl 1 []] (.bool true) := SameTexts_spec [] (by decide)
    refine vwp_seq_k fun Nm hNm => vreg tt_ok hF rfl ?_; simp only [go_sem, Int.reduceEq, Int.reduceNe, Int.reduceLT, Int.reduceLE, Nat.reduceEqDiff, Nat.reduceAdd, Nat.reduceMul, Nat.reduceLT, Nat.reduceLeDiff, Nat.reduceSub, reduceCtorEq, reduceIte, Int.reduceToNat, beq_self_eq_true, Bool.and_self, List.take_length, decide_true, Bool.not_true, Bool.not_false, hLp, hL0]
    refine .inl ⟨_, g1, ?_⟩; try simp only [go_sem, Int.reduceEq, Int.reduceNe, Int.reduceLT, Int.reduceLE, Nat.reduceEqDiff, Nat.reduceAdd, Nat.reduceMul, Nat.reduceLT, Nat.reduceLeDiff, Nat.reduceSub, reduceCtorEq, reduceIte, Int.reduceToNat, beq_self_eq_true, Bool.and_self, List.take_length, decide_true, Bool.not_true, Bool.not_false]
    refine hNm _ (VWp.keepR [2,4,15,16,17] [4,16] tt_ok hF rfl fun Nn hNn => ?_); simp only [go_sem, Int.reduceEq, Int.reduceNe, Int.reduceLT, Int.reduceLE, Nat.reduceEqDiff, Nat.reduceAdd, Nat.reduceMul, Nat.reduceLT, Nat.reduceLeDiff, Nat.reduceSub, reduceCtorEq, reduceIte, Int.reduceToNat, beq_self_eq_true, Bool.and_self, List.take_length, decide_true, Bool.not_true, Bool.not_false]
    refine .inl ⟨_, g2, ?_⟩; try simp only [go_sem, Int.reduceEq, Int.reduceNe, Int.reduceLT, Int.reduceLE, Nat.reduceEqDiff, Nat.reduceAdd, Nat.reduceMul, Nat.reduceLT, Nat.reduceLeDiff, Nat.reduceSub, reduceCtorEq, reduceIte, Int.reduceToNat, beq_self_eq_true, Bool.and_self, List.take_length, decide_true, Bool.not_true, Bool.not_false]
    refine hNn _ (VWp.keep [4,15,16,17,18,19] [4,16,18] ?_); simp only [go_sem, Int.reduceEq, Int.reduceNe, Int.reduceLT, Int.reduceLE, Nat.reduceEqDiff, Nat.reduceAdd, Nat.reduceMul, Nat.reduceLT, Nat.reduceLeDiff, Nat.reduceSub, reduceCtorEq, reduceIte, Int.reduceToNat, beq_self_eq_true, Bool.and_self, List.take_length, decide_true, Bool.not_true, Bool.not_false]
    refine vwp_seq_k fun No hNo => ?_
    refine vwp_seq_k fun Np hNp => vreg tt_ok hF rfl ?_; simp only [go_sem, Int.reduceEq, Int.reduceNe, Int.reduceLT, Int.reduceLE, Nat.reduceEqDiff, Nat.reduceAdd, Nat.reduceMul, Nat.reduceLT, Nat.reduceLeDiff, Nat.reduceSub, reduceCtorEq, reduceIte, Int.reduceToNat, beq_self_eq_true, Bool.and_self, List.take_length, decide_true, Bool.not_true, Bool.not_false]
    refine .inl ⟨_, h6, ?_⟩; try simp only [go_sem, Int.reduceEq, Int.reduceNe, Int.reduceLT, Int.reduceLE, Nat.reduceEqDiff, Nat.reduceAdd, Nat.reduceMul, Nat.reduceLT, Nat.reduceLeDiff, Nat.reduceSub, reduceCtorEq, reduceIte, Int.reduceToNat, beq_self_eq_true, Bool.and_self, List.take_length, decide_true, Bool.not_true, Bool.not_false]
    refine hNp _ (VWp.keep [4,15,16,114] [4,16] ?_); simp only [go_sem, Int.reduceEq, Int.reduceNe, Int.reduceLT, Int.reduceLE, Nat.reduceEqDiff, Nat.reduceAdd, Nat.reduceMul, Nat.reduceLT, Nat.reduceLeDiff, Nat.reduceSub, reduceCtorEq, reduceIte, Int.reduceToNat, beq_self_eq_true, Bool.and_self, List.take_length, decide_true, Bool.not_true, Bool.not_false]
    refine vif rfl ⟨fun ht => (by cases ht), fun hf => ?_⟩
    refine vwp_skip (hNo _ ?_)
    refine vwp_seq_k fun Nr hNr => ?_
    refine vwp_seq_k fun Ns hNs => vreg tt_ok hF rfl ?_; simp only [go_sem, Int.reduceEq, Int.reduceNe, Int.reduceLT, Int.reduceLE, Nat.reduceEqDiff, Nat.reduceAdd, Nat.reduceMul, Nat.reduceLT, Nat.reduceLeDiff, Nat.reduceSub, reduceCtorEq, reduceIte, Int.reduceToNat, beq_self_eq_true, Bool.and_self, List.take_length, decide_true, Bool.not_true, Bool.not_false]
    refine hNs _ (VWp.keep [4,15,16,20] [4,16] ?_); simp only [go_sem, Int.reduceEq, Int.reduceNe, Int.reduceLT, Int.reduceLE, Nat.reduceEqDiff, Nat.reduceAdd, Nat.reduceMul, Nat.reduceLT, Nat.reduceLeDiff, Nat.reduceSub, reduceCtorEq, reduceIte, Int.reduceToNat, beq_self_eq_true, Bool.and_self, List.take_length, decide_true, Bool.not_true, Bool.not_false]
    refine vwp_block (vloop (fun _ : Unit => [(4, .ptr 4 0), (15, .sl 5 L), (16, .ptr 16 0), (20, .int .i64 0)]) (fun _ => [(4, .box 33 [.int .i64 s.line, .str s.name, .str s.op, .sl 3 (s.params.map prmC), .sl 1 (s.data.map fun w => [V.str w])]), (16, .box 42 [.str k0, .str v0, .sl 1 []])]) (fun _ => True) (fun _ => 0) () trivial (by simp only [go_sem, Int.reduceEq, Int.reduceNe, Int.reduceLT, Int.reduceLE, Nat.reduceEqDiff, Nat.reduceAdd, Nat.reduceMul, Nat.reduceLT, Nat.reduceLeDiff, Nat.reduceSub, reduceCtorEq, reduceIte, Int.reduceToNat, beq_self_eq_true, Bool.and_self, List.take_length, decide_true, Bool.not_true, Bool.not_false]) ?_)
    rintro _ _
    refine vwp_seq_k fun Nt hNt => ?_
    refine vwp_seq_k fun Nu hNu => vreg tt_ok hF rfl ?_; simp only [go_sem, Int.reduceEq, Int.reduceNe, Int.reduceLT, Int.reduceLE, Nat.reduceEqDiff, Nat.reduceAdd, Nat.reduceMul, Nat.reduceLT, Nat.reduceLeDiff, Nat.reduceSub, reduceCtorEq, reduceIte, Int.reduceToNat, beq_self_eq_true, Bool.and_self, List.take_length, decide_true, Bool.not_true, Bool.not_false]
    refine hNu _ (VWp.keep [4,15,16,20,119] [4,16] ?_); simp only [go_sem, Int.reduceEq, Int.reduceNe, Int.reduceLT, Int.reduceLE, Nat.reduceEqDiff, Nat.reduceAdd, Nat.reduceMul, Nat.reduceLT, Nat.reduceLeDiff, Nat.reduceSub, reduceCtorEq, reduceIte, Int.reduceToNat, beq_self_eq_true, Bool.and_self, List.take_length, decide_true, Bool.not_true, Bool.not_false]
    refine vif rfl ⟨fun ht => (by cases ht), fun hf => ?_⟩
    refine vwp_exit ?_
    simp only [go_sem, Int.reduceEq, Int.reduceNe, Int.reduceLT, Int.reduceLE, Nat.reduceEqDiff, Nat.reduceAdd, Nat.reduceMul, Nat.reduceLT, Nat.reduceLeDiff, Nat.reduceSub, reduceCtorEq, reduceIte, Int.reduceToNat, beq_self_eq_true, Bool.and_self, List.take_length, decide_true, Bool.not_true, Bool.not_false]
    refine hNr _ (VWp.keepR [4,15] [4] tt_ok hF rfl fun Nw hNw => ?_); simp only [go_sem, Int.reduceEq, Int.reduceNe, Int.reduceLT, Int.reduceLE, Nat.reduceEqDiff, Nat.reduceAdd, Nat.reduceMul, Nat.reduceLT, Nat.reduceLeDiff, Nat.reduceSub, reduceCtorEq, reduceIte, Int.reduceToNat, beq_self_eq_true, Bool.and_self, List.take_length, decide_true, Bool.not_true, Bool.not_false]
    refine .inl ⟨_, hsame, ?_⟩; try simp only [go_sem, Int.reduceEq, Int.reduceNe, Int.reduceLT, Int.reduceLE, Nat.reduceEqDiff, Nat.reduceAdd, Nat.reduceMul, Nat.reduceLT, Nat.reduceLeDiff, Nat.reduceSub, reduceCtorEq, reduceIte, Int.reduceToNat, beq_self_eq_true, Bool.and_self, List.take_length, decide_true, Bool.not_true, Bool.not_false]
    refine .inl ⟨_, hw, ?_⟩; try simp only [go_sem, Int.reduceEq, Int.reduceNe, Int.reduceLT, Int.reduceLE, Nat.reduceEqDiff, Nat.reduceAdd, Nat.reduceMul, Nat.reduceLT, Nat.reduceLeDiff, Nat.reduceSub, reduceCtorEq, reduceIte, Int.reduceToNat, beq_self_eq_true, Bool.and_self, List.take_length, decide_true, Bool.not_true, Bool.not_false]
    refine hNw _ (VWp.keep [6] [] ?_); simp only [go_sem, Int.reduceEq, Int.reduceNe, Int.reduceLT, Int.reduceLE, Nat.reduceEqDiff, Nat.reduceAdd, Nat.reduceMul, Nat.reduceLT, Nat.reduceLeDiff, Nat.reduceSub, reduceCtorEq, reduceIte, Int.reduceToNat, beq_self_eq_true, Bool.and_self, List.take_length, decide_true, Bool.not_true, Bool.not_false]
    refine vwp_ret ?_
    simp only [go_sem, Int.reduceEq, Int.reduceNe, Int.reduceLT, Int.reduceLE, Nat.reduceEqDiff, Nat.reduceAdd, Nat.reduceMul, Nat.reduceLT, Nat.reduceLeDiff, Nat.reduceSub, reduceCtorEq, reduceIte, Int.reduceToNat, beq_self_eq_true, Bool.and_self, List.take_length, decide_true, Bool.not_true, Bool.not_false]
    exact LeV.refl _
  · rw [hg] at g2
    have hplp := (hfew.pp p0 hmem).2.2.1
    have g1 := Get_hot s key p0 hg0 hne (by omega) hpp
    have g1 : SpecB Tryd.prog 22 [.agg [.int .i64 s.line, .str s.name, .str s.op, .sl 3 (s.params.map prmC), .sl 1 (s.data.map fun w => [V.str w])], .str key] [] (.tup [.agg [.str p0.key, .str p0.value, .hs 21 p0.parts.length], .bool true]) [(21, .box 9 (p0.parts.map V.str))] := g1
    have g2 : Spec Tryd.prog 23 [.agg [.int .i64 s.line, .str s.name, .str s.op, .sl 3 (s.params.map prmC), .sl 1 (s.data.map fun w => [V.str w])], .str key] (.tup [.agg [.str p0.key, .str p0.value, .sl 1 (p0.parts.map fun w => [V.str w])], .bool true]) := g2
    have h6 := SameTexts_hs p0.parts (by omega)
    refine vwp_seq_k fun Nm hNm => vreg tt_ok hF rfl ?_; simp only [go_sem, Int.reduceEq, Int.reduceNe, Int.reduceLT, Int.reduceLE, Nat.reduceEqDiff, Nat.reduceAdd, Nat.reduceMul, Nat.reduceLT, Nat.reduceLeDiff, Nat.reduceSub, reduceCtorEq, reduceIte, Int.reduceToNat, beq_self_eq_true, Bool.and_self, List.take_length, decide_true, Bool.not_true, Bool.not_false, hLp, hL0]
    refine .inr (bxo [(21, 200)] rfl ?_); simp only [go_sem, Int.reduceEq, Int.reduceNe, Int.reduceLT, Int.reduceLE, Nat.reduceEqDiff, Nat.reduceAdd, Nat.reduceMul, Nat.reduceLT, Nat.reduceLeDiff, Nat.reduceSub, reduceCtorEq, reduceIte, Int.reduceToNat, beq_self_eq_true, Bool.and_self, List.take_length, decide_true, Bool.not_true, Bool.not_false]; refine ⟨_, _, g1, ?_⟩; try simp only [go_sem, Int.reduceEq, Int.reduceNe, Int.reduceLT, Int.reduceLE, Nat.reduceEqDiff, Nat.reduceAdd, Nat.reduceMul, Nat.reduceLT, Nat.reduceLeDiff, Nat.reduceSub, reduceCtorEq, reduceIte, Int.reduceToNat, beq_self_eq_true, Bool.and_self, List.take_length, decide_true, Bool.not_true, Bool.not_false]
    refine hNm _ (VWp.keepR [2,4,15,16,17] [4,16,200] tt_ok hF rfl fun Nn hNn => ?_); simp only [go_sem, Int.reduceEq, Int.reduceNe, Int.reduceLT, Int.reduceLE, Nat.reduceEqDiff, Nat.reduceAdd, Nat.reduceMul, Nat.reduceLT, Nat.reduceLeDiff, Nat.reduceSub, reduceCtorEq, reduceIte, Int.reduceToNat, beq_self_eq_true, Bool.and_self, List.take_length, decide_true, Bool.not_true, Bool.not_false]
    refine .inl ⟨_, g2, ?_⟩; try simp only [go_sem, Int.reduceEq, Int.reduceNe, Int.reduceLT, Int.reduceLE, Nat.reduceEqDiff, Nat.reduceAdd, Nat.reduceMul, Nat.reduceLT, Nat.reduceLeDiff, Nat.reduceSub, reduceCtorEq, reduceIte, Int.reduceToNat, beq_self_eq_true, Bool.and_self, List.take_length, decide_true, Bool.not_true, Bool.not_false]
    refine hNn _ (VWp.keep [4,15,16,17,18,19] [4,16,18,200] ?_); simp only [go_sem, Int.reduceEq, Int.reduceNe, Int.reduceLT, Int.reduceLE, Nat.reduceEqDiff, Nat.reduceAdd, Nat.reduceMul, Nat.reduceLT, Nat.reduceLeDiff, Nat.reduceSub, reduceCtorEq, reduceIte, Int.reduceToNat, beq_self_eq_true, Bool.and_self, List.take_length, decide_true, Bool.not_true, Bool.not_false]
    refine vwp_seq_k fun No hNo => ?_
    refine vwp_seq_k fun Np hNp => vreg tt_ok hF rfl ?_; simp only [go_sem, Int.reduceEq, Int.reduceNe, Int.reduceLT, Int.reduceLE, Nat.reduceEqDiff, Nat.reduceAdd, Nat.reduceMul, Nat.reduceLT, Nat.reduceLeDiff, Nat.reduceSub, reduceCtorEq, reduceIte, Int.reduceToNat, beq_self_eq_true, Bool.and_self, List.take_length, decide_true, Bool.not_true, Bool.not_false]
    refine .inr (bxo [(1000000, 200)] rfl ?_); simp only [go_sem, Int.reduceEq, Int.reduceNe, Int.reduceLT, Int.reduceLE, Nat.reduceEqDiff, Nat.reduceAdd, Nat.reduceMul, Nat.reduceLT, Nat.reduceLeDiff, Nat.reduceSub, reduceCtorEq, reduceIte, Int.reduceToNat, beq_self_eq_true, Bool.and_self, List.take_length, decide_true, Bool.not_true, Bool.not_false]; refine ⟨_, _, h6, ?_⟩; try simp only [go_sem, Int.reduceEq, Int.reduceNe, Int.reduceLT, Int.reduceLE, Nat.reduceEqDiff, Nat.reduceAdd, Nat.reduceMul, Nat.reduceLT, Nat.reduceLeDiff, Nat.reduceSub, reduceCtorEq, reduceIte, Int.reduceToNat, beq_self_eq_true, Bool.and_self, List.take_length, decide_true, Bool.not_true, Bool.not_false]
    refine hNp _ (VWp.keep [4,15,16,114] [4,16,200] ?_); simp only [go_sem, Int.reduceEq, Int.reduceNe, Int.reduceLT, Int.reduceLE, Nat.reduceEqDiff, Nat.reduceAdd, Nat.reduceMul, Nat.reduceLT, Nat.reduceLeDiff, Nat.reduceSub, reduceCtorEq, reduceIte, Int.reduceToNat, beq_self_eq_true, Bool.and_self, List.take_length, decide_true, Bool.not_true, Bool.not_false]
    refine vif rfl ⟨fun ht => (by cases ht), fun hf => ?_⟩
    refine vwp_skip (hNo _ ?_)
    refine vwp_seq_k fun Nr hNr => ?_
    refine vwp_seq_k fun Ns hNs => vreg tt_ok hF rfl ?_; simp only [go_sem, Int.reduceEq, Int.reduceNe, Int.reduceLT, Int.reduceLE, Nat.reduceEqDiff, Nat.reduceAdd, Nat.reduceMul, Nat.reduceLT, Nat.reduceLeDiff, Nat.reduceSub, reduceCtorEq, reduceIte, Int.reduceToNat, beq_self_eq_true, Bool.and_self, List.take_length, decide_true, Bool.not_true, Bool.not_false]
    refine hNs _ (VWp.keep [4,15,16,20] [4,16,200] ?_); simp only [go_sem, Int.reduceEq, Int.reduceNe, Int.reduceLT, Int.reduceLE, Nat.reduceEqDiff, Nat.reduceAdd, Nat.reduceMul, Nat.reduceLT, Nat.reduceLeDiff, Nat.reduceSub, reduceCtorEq, reduceIte, Int.reduceToNat, beq_self_eq_true, Bool.and_self, List.take_length, decide_true, Bool.not_true, Bool.not_false]
    have hsp0 : p0.parts.map V.str = spoilC p0.parts 0 := by simp [spoilC]
    rw [hsp0]
    refine vwp_block (vloop (fun j : Nat => [(4, .ptr 4 0), (15, .sl 5 L), (16, .ptr 16 0), (20, .int .i64 (j : Int))]) (fun j => [(4, .box 33 [.int .i64 s.line, .str s.name, .str s.op, .sl 3 (s.params.map prmC), .sl 1 (s.data.map fun w => [V.str w])]), (16, .box 42 [.str p0.key, .str p0.value, .hs 200 p0.parts.length]), (200, .box 9 (spoilC p0.parts j))]) (fun j => j ≤ p0.parts.length) (fun j => p0.parts.length - j) 0 (Nat.zero_le _) (by simp only [go_sem, Int.reduceEq, Int.reduceNe, Int.reduceLT, Int.reduceLE, Nat.reduceEqDiff, Nat.reduceAdd, Nat.reduceMul, Nat.reduceLT, Nat.reduceLeDiff, Nat.reduceSub, reduceCtorEq, reduceIte, Int.reduceToNat, beq_self_eq_true, Bool.and_self, List.take_length, decide_true, Bool.not_true, Bool.not_false]) ?_)
    intro j hj
    refine vwp_seq_k fun Nt hNt => ?_
    refine vwp_seq_k fun Nu hNu => vreg tt_ok hF rfl ?_; simp only [go_sem, Int.reduceEq, Int.reduceNe, Int.reduceLT, Int.reduceLE, Nat.reduceEqDiff, Nat.reduceAdd, Nat.reduceMul, Nat.reduceLT, Nat.reduceLeDiff, Nat.reduceSub, reduceCtorEq, reduceIte, Int.reduceToNat, beq_self_eq_true, Bool.and_self, List.take_length, decide_true, Bool.not_true, Bool.not_false]
    refine hNu _ (VWp.keep [4,15,16,20,119] [4,16,200] ?_); simp only [go_sem, Int.reduceEq, Int.reduceNe, Int.reduceLT, Int.reduceLE, Nat.reduceEqDiff, Nat.reduceAdd, Nat.reduceMul, Nat.reduceLT, Nat.reduceLeDiff, Nat.reduceSub, reduceCtorEq, reduceIte, Int.reduceToNat, beq_self_eq_true, Bool.and_self, List.take_length, decide_true, Bool.not_true, Bool.not_false]
    refine vif rfl ⟨fun ht => ?_, fun hf => ?_⟩
    · have hjl : j < p0.parts.length := by have := of_decide_eq_true ht; omega
      obtain ⟨x, hx⟩ : ∃ x, p0.parts[j]? = some x := ⟨_, List.getElem?_eq_getElem hjl⟩
      have hxl := (hfew.pp p0 hmem).2.2.2 x (List.mem_of_getElem? hx)
      have hpj : (0 : Int) ≤ (j : Int) ∧ (j : Int) < (p0.parts.length : Int) := ⟨by omega, by omega⟩
      have hat := spoil_at p0.parts j hx
      have hstep := spoil_step p0.parts j hx
      refine vwp_skip (hNt _ ?_)
      refine vwp_seq_k fun Nv hNv => ?_
      refine vwp_block ?_
      refine vregd tt_ok mixed hF rfl (by kernel_rfl) (by kernel_rfl) ?_; simp only [go_sem, Int.reduceEq, Int.reduceNe, Int.reduceLT, Int.reduceLE, Nat.reduceEqDiff, Nat.reduceAdd, Nat.reduceMul, Nat.reduceLT, Nat.reduceLeDiff, Nat.reduceSub, reduceCtorEq, reduceIte, Int.reduceToNat, beq_self_eq_true, Bool.and_self, List.take_length, decide_true, Bool.not_true, Bool.not_false, hpj, hat, hstep]
      have hsl := spoil_len p0.parts j hj
      first | (refine ⟨by omega, by omega, by omega, ?_⟩) | (refine ⟨by omega, by omega, ?_⟩)
      refine hNv _ (VWp.keep [4,15,16,20] [4,16,200] ?_); simp only [go_sem, Int.reduceEq, Int.reduceNe, Int.reduceLT, Int.reduceLE, Nat.reduceEqDiff, Nat.reduceAdd, Nat.reduceMul, Nat.reduceLT, Nat.reduceLeDiff, Nat.reduceSub, reduceCtorEq, reduceIte, Int.reduceToNat, beq_self_eq_true, Bool.and_self, List.take_length, decide_true, Bool.not_true, Bool.not_false]
      refine vreg tt_ok hF rfl ?_; simp only [go_sem, Int.reduceEq, Int.reduceNe, Int.reduceLT, Int.reduceLE, Nat.reduceEqDiff, Nat.reduceAdd, Nat.reduceMul, Nat.reduceLT, Nat.reduceLeDiff, Nat.reduceSub, reduceCtorEq, reduceIte, Int.reduceToNat, beq_self_eq_true, Bool.and_self, List.take_length, decide_true, Bool.not_true, Bool.not_false]
      rw [wrap_i64 (by omega) (by omega)]
      exact ⟨j + 1, by omega, by omega, by simp⟩
    · refine vwp_exit ?_
      simp only [go_sem, Int.reduceEq, Int.reduceNe, Int.reduceLT, Int.reduceLE, Nat.reduceEqDiff, Nat.reduceAdd, Nat.reduceMul, Nat.reduceLT, Nat.reduceLeDiff, Nat.reduceSub, reduceCtorEq, reduceIte, Int.reduceToNat, beq_self_eq_true, Bool.and_self, List.take_length, decide_true, Bool.not_true, Bool.not_false]
      refine hNr _ (VWp.keepR [4,15] [4] tt_ok hF rfl fun Nw hNw => ?_); simp only [go_sem, Int.reduceEq, Int.reduceNe, Int.reduceLT, Int.reduceLE, Nat.reduceEqDiff, Nat.reduceAdd, Nat.reduceMul, Nat.reduceLT, Nat.reduceLeDiff, Nat.reduceSub, reduceCtorEq, reduceIte, Int.reduceToNat, beq_self_eq_true, Bool.and_self, List.take_length, decide_true, Bool.not_true, Bool.not_false]
      refine .inl ⟨_, hsame, ?_⟩; try simp only [go_sem, Int.reduceEq, Int.reduceNe, Int.reduceLT, Int.reduceLE, Nat.reduceEqDiff, Nat.reduceAdd, Nat.reduceMul, Nat.reduceLT, Nat.reduceLeDiff, Nat.reduceSub, reduceCtorEq, reduceIte, Int.reduceToNat, beq_self_eq_true, Bool.and_self, List.take_length, decide_true, Bool.not_true, Bool.not_false]
      refine .inl ⟨_, hw, ?_⟩; try simp only [go_sem, Int.reduceEq, Int.reduceNe, Int.reduceLT, Int.reduceLE, Nat.reduceEqDiff, Nat.reduceAdd, Nat.reduceMul, Nat.reduceLT, Nat.reduceLeDiff, Nat.reduceSub, reduceCtorEq, reduceIte, Int.reduceToNat, beq_self_eq_true, Bool.and_self, List.take_length, decide_true, Bool.not_true, Bool.not_false]
      refine hNw _ (VWp.keep [6] [] ?_); simp only [go_sem, Int.reduceEq, Int.reduceNe, Int.reduceLT, Int.reduceLE, Nat.reduceEqDiff, Nat.reduceAdd, Nat.reduceMul, Nat.reduceLT, Nat.reduceLeDiff, Nat.reduceSub, reduceCtorEq, reduceIte, Int.reduceToNat, beq_self_eq_true, Bool.and_self, List.take_length, decide_true, Bool.not_true, Bool.not_false]
      refine vwp_ret ?_
      simp only [go_sem, Int.reduceEq, Int.reduceNe, Int.reduceLT, Int.reduceLE, Nat.reduceEqDiff, Nat.reduceAdd, Nat.reduceMul, Nat.reduceLT, Nat.reduceLeDiff, Nat.reduceSub, reduceCtorEq, reduceIte, Int.reduceToNat, beq_self_eq_true, Bool.and_self, List.take_length, decide_true, Bool.not_true, Bool.not_false]
      exact LeV.refl _
end Go.Proofs.YtnaljgmcpagbbaaDoor
